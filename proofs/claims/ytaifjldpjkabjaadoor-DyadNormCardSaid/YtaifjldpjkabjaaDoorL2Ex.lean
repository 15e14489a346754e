/- sluicewaylaw2: the walk of DyadOnes. Printed by wip/mk_L2E.py. -/
import Derived.Test.YtaifjldpjkabjaaDoorL2Cx
import Derived.Test.YtaifjldpjkabjaaDoorRfHx
namespace Go.Proofs.YtaifjldpjkabjaaDoor
open Go.RowKit Pl
attribute [local go_sem ↓] Go.wp_at_zero Go.wp_at_succ

theorem negS_e {d : Dy} : (negS d).e = d.e := by unfold negS; split <;> rfl
theorem fit_neg {d : Dy} (hl : Lim BB d.m) (h : mayD d = true) : fitS (!d.neg) (val BB d.m) d.e = (negS d, 0) := by
  by_cases h0 : d.m.length = 0
  · have hz := mayD_zero h h0
    rw [hz]
    exact fitS_zero _ _
  · have h1 := fit_may (d := negS d) (negS_lim hl) (negS_may h)
    have hn : negS d = ⟨!d.neg, d.m, d.e⟩ := by unfold negS; rw [if_pos ⟨h, h0⟩]
    rw [hn] at h1 ⊢
    exact h1
theorem ones_may {X k : Nat} (hX : X < BB ^ 20) (hk : k ≤ 200) : mayN (limbs BB (X * 2 ^ k)) = true := by
  refine may_limbs ?_
  have h2 : 2 ^ k < BB ^ 4 := by rw [pow_BB]; exact Nat.pow_lt_pow_right (by omega) (by omega)
  have h3 : X * 2 ^ k < BB ^ 20 * BB ^ 4 := Nat.mul_lt_mul'' hX h2
  rw [← Nat.pow_add] at h3
  exact Nat.lt_of_lt_of_le h3 (Nat.pow_le_pow_right BB_pos (by omega))
theorem normS_shift (neg : Bool) (X k : Nat) (e : Int) (h : mayN (limbs BB (X * 2 ^ k)) = true) : normS neg (limbs BB (X * 2 ^ k)) (e - (k : Int)) = fitS neg X e := by
  unfold normS
  rw [if_pos h, limbs_val BB_gt1, fitS_shift]
theorem ones_cut (j : Int) : ∃ k : Nat, k ≤ 200 ∧ wrap64 ((IntKind.u64.wrap j).tmod 201) = (k : Int) := by
  have h0 : 0 ≤ IntKind.u64.wrap j := by rw [IntKind.wrap_u64]; omega
  rw [Int.tmod_eq_emod_of_nonneg h0]
  have h1 : 0 ≤ IntKind.u64.wrap j % 201 := Int.emod_nonneg _ (by omega)
  have h2 : IntKind.u64.wrap j % 201 < 201 := Int.emod_lt_of_pos _ (by omega)
  refine ⟨(IntKind.u64.wrap j % 201).toNat, by omega, ?_⟩
  rw [IntWalk.wrap64_in _ (by omega)]
  omega
theorem normT (neg : Bool) (u : Value) (X : Nat) (e : Int) (w : World) (h : R64 w u X) (he1 : -9223372036854775808 ≤ e) (he2 : e ≤ 9223372036854775807) (hT : TabAt w) :
    Calls Tryd.prog 15 #[.bool neg, u, .int .i64 e] w fun x w' => DyTup w' x (normS neg (limbs BB X) e) ∧ Below w.heap.size w w' := by
  obtain ⟨A, n, c, rfl, hr, hn⟩ := h.limb
  exact (normF_any neg A n c _ e w hr (limbs_lim BB_gt1 X) he1 he2 hT).mono fun _ _ h => h.tup
theorem fromX (u : Value) (X : Nat) (w : World) (h : R64 w u X) (hX : blen X ≤ 64 * 100000) :
    Calls Tryd.prog 19 #[u] w fun e w' => (∃ z, e = .returned z ∧ R16 w' z X) ∧ Below w.heap.size w w' := by
  obtain ⟨A, n, c, rfl, hr, hn⟩ := h.limb
  have h1 := from_any A n c _ w hr (limbs_lim BB_gt1 X) (by have := limb_len hX; omega)
  rw [limbs_val BB_gt1] at h1
  exact h1.mono fun e w' ⟨A', n', c', he, hr', hb⟩ => ⟨⟨_, he, ⟨_, _, _, rfl, hr'⟩⟩, hb⟩
theorem shlX (u : Value) (X : Nat) (w : World) (h : R16 w u X) (hX : blen X ≤ 1500000) (j : Nat) (hj : j ≤ 1000000) :
    Calls Tryd.prog 41 #[u, .int .i64 (j : Int)] w fun e w' => (∃ z, e = .returned z ∧ R16 w' z (X * 2 ^ j)) ∧ Below w.heap.size w w' := by
  obtain ⟨A, n, c, rfl, hr⟩ := h
  exact (rshl_any A n c X j w hr (dig_len' hr (show blen X ≤ 16 * 100000 by omega)) hj).mono fun e w' ⟨v, he, hv, hb⟩ => ⟨⟨v, he, hv⟩, hb⟩
theorem limbsX (u : Value) (X : Nat) (w : World) (h : R16 w u X) (hX : blen X ≤ 1500000) :
    Calls Tryd.prog 40 #[u] w fun e w' => (∃ z, e = .returned z ∧ R64 w' z X) ∧ Below w.heap.size w w' := by
  obtain ⟨A, n, c, rfl, hr⟩ := h
  exact (limbs_any A n c X w hr (dig_len' hr (show blen X ≤ 16 * 100000 by omega))).mono fun e w' ⟨v, he, hv, hb⟩ => ⟨⟨v, he, hv⟩, hb⟩

set_option maxRecDepth 100000 in
set_option maxHeartbeats 8000000 in
theorem dyadOnes_any (u : Value) (a : Dy) (j : Int) (w : World) (h : RdD w u a) (hT : TabAt w) :
    Calls Tryd.prog 7 #[u, .int .i64 j] w fun x w' => x = .returned (.bool true) ∧ Below w.heap.size w w' := by
  have r_a := h
  have la := hide h.lim
  obtain ⟨A_a, n_a, c_a, rfl, hr_a, _, he1, he2⟩ := h
  have hlen := hr_a.len
  have HT := hide hT
  clear hT
  rcases Nat.lt_or_ge 20 n_a with hq0 | hq1
  · have hq : (20 : Int) < (n_a : Int) := by omega
    clear hq0
    obtain ⟨b_a, hb0⟩ := box_1 w [.bool a.neg, .slice A_a n_a c_a, .int .i64 a.e] 24
    have r_a := r_a.below hb0
    have HT := hide (HT.out.below hb0)
    clear hr_a
    go_enter Tryd.func7, Tryd.ntmps7
    go_upto_region 1 with fail
    generalize w.alloc (.cells #[.bool a.neg, .slice A_a n_a c_a, .int .i64 a.e] 24) = w0 at *
    have q_a0 := b_a.cell 0 rfl
    have q_a1 := b_a.cell 1 rfl
    have q_a2 := b_a.cell 2 rfl
    go_wp2_with fail
    clear q_a0 q_a1 q_a2
    with_reducible refine (told2_any _ HT.out).mono ?_
    rintro e w1 ⟨rfl, hb1⟩
    have r_a_1 := r_a.below hb1
    have b_a_1 := b_a.keep hb1
    have HT_1 := hide (HT.out.below hb1)
    have hbs1 := below_then hb0 hb1
    clear r_a b_a HT hb0 hb1
    go_wp2_with fail
    go_ret
    exact ⟨rfl, hbs1⟩
  cases hm : mayD a
  · skip
    obtain ⟨b_a, hb0⟩ := box_1 w [.bool a.neg, .slice A_a n_a c_a, .int .i64 a.e] 24
    have r_a := r_a.below hb0
    have HT := hide (HT.out.below hb0)
    clear hr_a
    go_enter Tryd.func7, Tryd.ntmps7
    go_upto_region 1 with fail
    generalize w.alloc (.cells #[.bool a.neg, .slice A_a n_a c_a, .int .i64 a.e] 24) = w0 at *
    have q_a0 := b_a.cell 0 rfl
    have q_a1 := b_a.cell 1 rfl
    have q_a2 := b_a.cell 2 rfl
    go_wp2_with fail
    clear q_a0 q_a1 q_a2
    with_reducible refine (mayD_any _ a _ r_a).mono ?_
    rw [hm]
    rintro e w1 ⟨rfl, hb1⟩
    have r_a_1 := r_a.below hb1
    have b_a_1 := b_a.keep hb1
    have HT_1 := hide (HT.out.below hb1)
    have hbs1 := below_then hb0 hb1
    clear r_a b_a HT hb0 hb1
    go_wp2_with fail
    with_reducible refine (told2_any _ HT_1.out).mono ?_
    rintro e w2 ⟨rfl, hb2⟩
    have r_a_2 := r_a_1.below hb2
    have b_a_2 := b_a_1.keep hb2
    have HT_2 := hide (HT_1.out.below hb2)
    have hbs2 := below_then hbs1 hb2
    clear r_a_1 b_a_1 HT_1 hbs1 hb2
    go_wp2_with fail
    go_ret
    exact ⟨rfl, hbs2⟩
  by_cases hlo : a.e < -1048276
  · have hlo2 : decide (a.e < -1048276) = true := decide_eq_true hlo
    obtain ⟨b_a, hb0⟩ := box_1 w [.bool a.neg, .slice A_a n_a c_a, .int .i64 a.e] 24
    have r_a := r_a.below hb0
    have HT := hide (HT.out.below hb0)
    clear hr_a
    go_enter Tryd.func7, Tryd.ntmps7
    go_upto_region 1 with fail
    generalize w.alloc (.cells #[.bool a.neg, .slice A_a n_a c_a, .int .i64 a.e] 24) = w0 at *
    have q_a0 := b_a.cell 0 rfl
    have q_a1 := b_a.cell 1 rfl
    have q_a2 := b_a.cell 2 rfl
    go_wp2_with fail
    clear q_a0 q_a1 q_a2
    with_reducible refine (mayD_any _ a _ r_a).mono ?_
    rw [hm]
    rintro e w1 ⟨rfl, hb1⟩
    have r_a_1 := r_a.below hb1
    have b_a_1 := b_a.keep hb1
    have HT_1 := hide (HT.out.below hb1)
    have hbs1 := below_then hb0 hb1
    clear r_a b_a HT hb0 hb1
    have q_a0 := b_a_1.cell 0 rfl
    have q_a1 := b_a_1.cell 1 rfl
    have q_a2 := b_a_1.cell 2 rfl
    go_wp2_with fail
    clear q_a0 q_a1 q_a2
    with_reducible refine (told2_any _ HT_1.out).mono ?_
    rintro e w2 ⟨rfl, hb2⟩
    have r_a_2 := r_a_1.below hb2
    have b_a_2 := b_a_1.keep hb2
    have HT_2 := hide (HT_1.out.below hb2)
    have hbs2 := below_then hbs1 hb2
    clear r_a_1 b_a_1 HT_1 hbs1 hb2
    go_wp2_with fail
    go_ret
    exact ⟨rfl, hbs2⟩
  have hlo2 : decide (a.e < -1048276) = false := decide_eq_false hlo
  have ra0 := mayD_rd hr_a la.out hm
  obtain ⟨_, _, ee1, ee2⟩ := mayD_limbs hm
  have hXb := mayD_blen la.out hm
  obtain ⟨k, hk, hk2⟩ := ones_cut j
  have HK := hide hk2
  clear hk2
  have hX20 : val BB a.m < BB ^ 20 := Nat.lt_of_lt_of_le (val_lt la.out) (Nat.pow_le_pow_right BB_pos (by omega))
  have hM := ones_may hX20 hk
  have N1 : Hid (normS a.neg (limbs BB (val BB a.m * 2 ^ k)) (a.e - (k : Int)) = (a, 0)) := by unfold Hid; rw [normS_shift _ _ _ _ hM, fit_may la.out hm]
  have N2 : Hid (normS (!a.neg) (limbs BB (val BB a.m * 2 ^ k)) (a.e - (k : Int)) = (negS a, 0)) := by unfold Hid; rw [normS_shift _ _ _ _ hM, fit_neg la.out hm]
  obtain ⟨X, eX⟩ : ∃ X, X = val BB a.m := ⟨_, rfl⟩
  rw [← eX] at ra0 hXb N1 N2
  clear eX hX20 hM hlo
  have hX6 : Hid (blen X ≤ 64 * 100000) := by unfold Hid; omega
  have hX5 : Hid (blen X ≤ 1500000) := by unfold Hid; omega
  have hS5 : Hid (blen (X * 2 ^ k) ≤ 1500000) := by
    unfold Hid
    rcases Nat.eq_zero_or_pos X with h0 | h0
    · rw [h0, Nat.zero_mul]; exact Nat.zero_le _
    · rw [blen_mul_pow (by omega)]; omega
  have hw9 : IntKind.i64.wrap (a.e - (k : Int)) = a.e - (k : Int) := IntWalk.i64_in _ (by omega)
  have hla : a.m.length ≤ 1000000 := by have := (mayD_limbs hm).2.1; omega
  clear hXb
  obtain ⟨b_a, hb0⟩ := box_1 w [.bool a.neg, .slice A_a n_a c_a, .int .i64 a.e] 24
  have r_a := r_a.below hb0
  have ra0 := ra0.below hb0
  have HT := hide (HT.out.below hb0)
  clear hr_a
  go_enter Tryd.func7, Tryd.ntmps7
  go_upto_region 1 with fail
  generalize w.alloc (.cells #[.bool a.neg, .slice A_a n_a c_a, .int .i64 a.e] 24) = w0 at *
  have q_a0 := b_a.cell 0 rfl
  have q_a1 := b_a.cell 1 rfl
  have q_a2 := b_a.cell 2 rfl
  go_wp2_with fail
  clear q_a0 q_a1 q_a2
  with_reducible refine (mayD_any _ a _ r_a).mono ?_
  rw [hm]
  rintro e w1 ⟨rfl, hb1⟩
  have r_a_1 := r_a.below hb1
  have b_a_1 := b_a.keep hb1
  have HT_1 := hide (HT.out.below hb1)
  have ra0_1 := ra0.below hb1
  have hbs1 := below_then hb0 hb1
  clear r_a b_a HT ra0 hb0 hb1
  have q_a0 := b_a_1.cell 0 rfl
  have q_a1 := b_a_1.cell 1 rfl
  have q_a2 := b_a_1.cell 2 rfl
  go_upto_region 4 with fail
  rw [HK.out]
  go_wp2_with fail
  clear q_a0 q_a1 q_a2
  with_reducible refine (fromX _ X _ ra0_1 hX6.out).mono ?_
  rintro e w2 ⟨⟨z1, rfl, s1⟩, hb2⟩
  have r_a_2 := r_a_1.below hb2
  have b_a_2 := b_a_1.keep hb2
  have HT_2 := hide (HT_1.out.below hb2)
  have ra0_2 := ra0_1.below hb2
  have hbs2 := below_then hbs1 hb2
  clear r_a_1 b_a_1 HT_1 ra0_1 hbs1 hb2
  clear ra0_2
  go_wp2_with fail
  with_reducible refine (shlX _ X _ s1 hX5.out k (by omega)).mono ?_
  rintro e w3 ⟨⟨z2, rfl, s2⟩, hb3⟩
  have r_a_3 := r_a_2.below hb3
  have b_a_3 := b_a_2.keep hb3
  have HT_3 := hide (HT_2.out.below hb3)
  have s1_3 := s1.below hb3
  have hbs3 := below_then hbs2 hb3
  clear r_a_2 b_a_2 HT_2 s1 hbs2 hb3
  clear s1_3
  go_wp2_with fail
  with_reducible refine (limbsX _ (X * 2 ^ k) _ s2 hS5.out).mono ?_
  rintro e w4 ⟨⟨z3, rfl, s3⟩, hb4⟩
  have r_a_4 := r_a_3.below hb4
  have b_a_4 := b_a_3.keep hb4
  have HT_4 := hide (HT_3.out.below hb4)
  have s2_4 := s2.below hb4
  have hbs4 := below_then hbs3 hb4
  clear r_a_3 b_a_3 HT_3 s2 hbs3 hb4
  clear s2_4
  have q_a0 := b_a_4.cell 0 rfl
  have q_a1 := b_a_4.cell 1 rfl
  have q_a2 := b_a_4.cell 2 rfl
  go_wp2_with fail
  clear q_a0 q_a1 q_a2
  with_reducible refine (normT a.neg _ (X * 2 ^ k) (a.e - (k : Int)) _ s3 (by omega) (by omega) HT_4.out).mono ?_
  rintro e w5 ⟨⟨d_x, x_x, A_x, n_x, c_x, h_x, rfl, r_x⟩, hb5⟩
  have r_a_5 := r_a_4.below hb5
  have b_a_5 := b_a_4.keep hb5
  have HT_5 := hide (HT_4.out.below hb5)
  have s3_5 := s3.below hb5
  have hbs5 := below_then hbs4 hb5
  clear r_a_4 b_a_4 HT_4 s3 hbs4 hb5
  obtain ⟨e1, e2⟩ := Prod.mk.inj (h_x.out.trans N1.out)
  have D1 := hide e1
  clear e1 h_x
  subst e2
  obtain ⟨b_x_n6, hb6⟩ := box_1 w5 [.bool d_x.neg, .slice A_x n_x c_x, .int .i64 d_x.e] 24
  go_upto_region 6 with fail
  generalize (w5.alloc (.cells #[.bool d_x.neg, .slice A_x n_x c_x, .int .i64 d_x.e] 24)) = w6 at *
  have r_a_6 := r_a_5.below hb6
  have b_a_6 := b_a_5.keep hb6
  have HT_6 := hide (HT_5.out.below hb6)
  have s3_6 := s3_5.below hb6
  have r_x_6 := r_x.below hb6
  have hbs6 := below_then hbs5 hb6
  clear r_a_5 b_a_5 HT_5 s3_5 r_x hbs5 hb6
  have q_a0 := b_a_6.cell 0 rfl
  have q_a1 := b_a_6.cell 1 rfl
  have q_a2 := b_a_6.cell 2 rfl
  go_wp2_with fail
  clear q_a0 q_a1 q_a2
  with_reducible refine (normT (!a.neg) _ (X * 2 ^ k) (a.e - (k : Int)) _ s3_6 (by omega) (by omega) HT_6.out).mono ?_
  rintro e w7 ⟨⟨d_y, x_y, A_y, n_y, c_y, h_y, rfl, r_y⟩, hb7⟩
  have r_a_7 := r_a_6.below hb7
  have b_a_7 := b_a_6.keep hb7
  have HT_7 := hide (HT_6.out.below hb7)
  have s3_7 := s3_6.below hb7
  have r_x_7 := r_x_6.below hb7
  have b_x_7 := b_x_n6.keep hb7
  have hbs7 := below_then hbs6 hb7
  clear r_a_6 b_a_6 HT_6 s3_6 r_x_6 b_x_n6 hbs6 hb7
  obtain ⟨e1, e2⟩ := Prod.mk.inj (h_y.out.trans N2.out)
  have D2 := hide e1
  clear e1 h_y
  subst e2
  clear s3_7
  obtain ⟨b_y_n8, hb8⟩ := box_1 w7 [.bool d_y.neg, .slice A_y n_y c_y, .int .i64 d_y.e] 24
  go_upto_region 7 with fail
  generalize (w7.alloc (.cells #[.bool d_y.neg, .slice A_y n_y c_y, .int .i64 d_y.e] 24)) = w8 at *
  have r_a_8 := r_a_7.below hb8
  have b_a_8 := b_a_7.keep hb8
  have HT_8 := hide (HT_7.out.below hb8)
  have r_x_8 := r_x_7.below hb8
  have b_x_8 := b_x_7.keep hb8
  have r_y_8 := r_y.below hb8
  have hbs8 := below_then hbs7 hb8
  clear r_a_7 b_a_7 HT_7 r_x_7 b_x_7 r_y hbs7 hb8
  have e_a0 := b_a_8.cellE b_a_8.lt 0 rfl
  have e_a1 := b_a_8.cellE b_a_8.lt 1 rfl
  have e_a2 := b_a_8.cellE b_a_8.lt 2 rfl
  have e_x0 := b_x_8.cellE b_x_8.lt 0 rfl
  have e_x1 := b_x_8.cellE b_x_8.lt 1 rfl
  have e_x2 := b_x_8.cellE b_x_8.lt 2 rfl
  have e_y0 := b_y_n8.cellE b_y_n8.lt 0 rfl
  have e_y1 := b_y_n8.cellE b_y_n8.lt 1 rfl
  have e_y2 := b_y_n8.cellE b_y_n8.lt 2 rfl
  have E1 : Hid (sameD d_x a = true) := by unfold Hid; rw [D1.out]; exact sameD_self _
  have E2 : Hid (sameD d_y (negS a) = true) := by unfold Hid; rw [D2.out]; exact sameD_self _
  go_region_held3 (fun w' => Below w8.heap.size w8 w') (first | exact (Below.refl _ _).drew | exact below_then (by assumption) hbT | exact below_then (by assumption) hbS | exact below_then (by assumption) hbN | exact below_then (by assumption) hbU)
    (first
      | (go_at_call 14; (with_reducible refine (told2_any _ (HT_8.out.below (by assumption))).mono ?_); rintro z wT ⟨rfl, hbT⟩)
      | (go_at_call 39; (with_reducible refine (sameD_any _ _ d_x a _ (r_x_8.below (by assumption)) (r_a_8.below (by assumption))).mono ?_); rw [E1.out]; rintro z wS ⟨rfl, hbS⟩)
      | (go_at_call 37; (with_reducible refine (negT _ a _ (r_a_8.below (by assumption)) hla).mono ?_); rintro z wN ⟨⟨A1, n1, c1, rfl, rN⟩, hbN⟩)
      | (go_at_call 39; (with_reducible refine (sameD_any _ _ d_y (negS a) _ (r_y_8.below (by assumption)) rN).mono ?_); rw [E2.out]; rintro z wU ⟨rfl, hbU⟩))
  all_goals
    have hbF := below_then hbs8 (below_then (below_then (below_then (below_then (Below.refl w8.heap.size w8).drew hbT) hbS) hbN) hbU)
    go_wp2
    go_ret
    exact ⟨rfl, hbF⟩
end Go.Proofs.YtaifjldpjkabjaaDoor
