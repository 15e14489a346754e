/- sluicewaylaw2: the walk of DyadFar. Printed by wip/mk_L2D.py. -/
import Derived.Test.YtaifjldpjkabjaaDoorL2C
namespace Go.Proofs.YtaifjldpjkabjaaDoor
open Go.RowKit Pl
attribute [local go_sem ↓] Go.wp_at_zero Go.wp_at_succ

theorem or_one {t : Nat} (h : t < BB) : bits .or .u64 (t : Int) 1 = ((t ||| 1 : Nat) : Int) := u64_or_nat t 1 h (by omega)
theorem or_one_lt {t : Nat} (h : t < BB) : t ||| 1 < BB := by
  rw [BB_eq] at *
  exact Nat.or_lt_two_pow h (by omega)
theorem or_one_odd (t : Nat) : (t ||| 1) % 2 = 1 := by
  have h := Nat.or_mod_two_pow (a := t) (b := 1) (n := 1)
  rw [Nat.pow_one] at h
  rw [h]
  rcases Nat.mod_two_eq_zero_or_one t with e | e <;> rw [e] <;> rfl
theorem may1L {x : Nat} (h : 0 < x) : mayN [x] = true := by
  have : ¬ x = 0 := by omega
  simp [mayN, nth, this]
theorem val1L (x : Nat) : val BB [x] = x := by simp [val]
theorem rdOne {W : World} {b x : Nat} {t : TypeId} (h : Box W b [.int .u64 (x : Int)] t) : RdN .u64 W (some ⟨b, 0, none⟩) 1 1 [x] :=
  ⟨rfl, Nat.le_refl _, by unfold maxLen; omega, fun _ => ⟨b, 0, rfl, h.lt, fun k hk => by
    obtain rfl : k = 0 := by omega
    exact h.cell 0 rfl⟩⟩
theorem far_cut (j : Int) : ∃ k : Nat, 5000 ≤ k ∧ k < 505000 ∧ wrap64 (5000 + wrap64 ((IntKind.u64.wrap j).tmod 500000)) = (k : Int) := by
  have h0 : 0 ≤ IntKind.u64.wrap j := by rw [IntKind.wrap_u64]; omega
  rw [Int.tmod_eq_emod_of_nonneg h0]
  have h1 : 0 ≤ IntKind.u64.wrap j % 500000 := Int.emod_nonneg _ (by omega)
  have h2 : IntKind.u64.wrap j % 500000 < 500000 := Int.emod_lt_of_pos _ (by omega)
  refine ⟨5000 + (IntKind.u64.wrap j % 500000).toNat, by omega, by omega, ?_⟩
  rw [IntWalk.wrap64_in (IntKind.u64.wrap j % 500000) (by omega), IntWalk.wrap64_in _ (by omega)]
  omega
theorem far_may {s t k : Nat} (hs : s % 2 = 1) (ht : t % 2 = 1) (hk1 : 5000 ≤ k) (hk2 : k < 505000) : mayD ⟨false, [s], (k : Int)⟩ = true ∧ mayD ⟨false, [t], -(k : Int)⟩ = true := by
  have hm : ∀ x, x % 2 = 1 → mayN [x] = true := fun x h => may1L (by omega)
  have h1 : ¬ (k : Int) < -1048576 := by omega
  refine ⟨?_, ?_⟩ <;> unfold mayD <;> simp only [List.length_cons, List.length_nil] <;> rw [if_neg (by omega)] <;> simp only [Bool.and_eq_true, decide_eq_true_eq]
  · exact ⟨⟨⟨hm s hs, hs⟩, by omega⟩, by omega⟩
  · exact ⟨⟨⟨hm t ht, ht⟩, by omega⟩, by omega⟩
theorem far_sumO {s t k : Nat} (hs : s % 2 = 1) (hk1 : 5000 ≤ k) (hk2 : k < 505000) (g1 g2 : Bool) : sumO ⟨g1, [s], (k : Int)⟩ ⟨g2, [t], -(k : Int)⟩ = (Dy.zero, 2) := by
  unfold sumO
  have e2 : val BB [s] = s := val1L s
  simp only
  rw [e2]
  have b1 : 1 ≤ blen s := blen_pos.2 (by omega)
  rw [if_neg (by rintro (h | h) <;> omega)]
theorem far_mag {s t k : Nat} (hs : s % 2 = 1) (ht : t % 2 = 1) (ht2 : t < BB) (hk1 : 5000 ≤ k) (hk2 : k < 505000) : magD ⟨false, [t], -(k : Int)⟩ < magD ⟨false, [s], (k : Int)⟩ := by
  obtain ⟨h1, h2⟩ := far_may hs ht hk1 hk2
  refine mag_lt h2 h1 (by simp) ?_
  have e1 : val BB [t] = t := val1L t
  have e2 : val BB [s] = s := val1L s
  simp only
  rw [e1, e2]
  have b1 : blen t ≤ 64 := by rw [blen_le, ← BB_eq]; exact ht2
  omega
theorem far_sum {s t k : Nat} (hs : s % 2 = 1) (ht : t % 2 = 1) (hk1 : 5000 ≤ k) (hk2 : k < 505000) : twoS ⟨false, [s], (k : Int)⟩ ⟨false, [t], -(k : Int)⟩ (sumS ⟨false, [s], (k : Int)⟩ ⟨false, [t], -(k : Int)⟩) = (Dy.zero, 2) := by
  obtain ⟨h1, h2⟩ := far_may hs ht hk1 hk2
  rw [twoS_of h1 h2]
  unfold sumS
  rw [if_neg (by simp), if_neg (by simp), if_neg (by simp only; omega)]
  exact far_sumO hs hk1 hk2 _ _
theorem far_sub {s t k : Nat} (hs : s % 2 = 1) (ht : t % 2 = 1) (hk1 : 5000 ≤ k) (hk2 : k < 505000) : twoS ⟨false, [t], -(k : Int)⟩ ⟨false, [s], (k : Int)⟩ (subS ⟨false, [t], -(k : Int)⟩ ⟨false, [s], (k : Int)⟩) = (Dy.zero, 2) := by
  obtain ⟨h1, h2⟩ := far_may hs ht hk1 hk2
  rw [twoS_of h2 h1]
  have hn : negS ⟨false, [s], (k : Int)⟩ = ⟨true, [s], (k : Int)⟩ := by unfold negS; rw [if_pos ⟨h1, by simp⟩]; rfl
  unfold subS sumS
  rw [hn, if_neg (by simp), if_neg (by simp), if_pos (by simp only; omega)]
  exact far_sumO hs hk1 hk2 _ _
section
variable {s t k : Nat} (hs : s % 2 = 1) (hs2 : s < BB) (ht : t % 2 = 1) (ht2 : t < BB) (hk1 : 5000 ≤ k) (hk2 : k < 505000)
include hs hs2 ht ht2 hk1 hk2
theorem far_cmp : cmpD ⟨false, [s], (k : Int)⟩ ⟨false, [t], -(k : Int)⟩ = 1 := by
  obtain ⟨h1, h2⟩ := far_may hs ht hk1 hk2
  have h3 := far_mag hs ht ht2 hk1 hk2
  rw [cmpD_Z h1 (Lim.cons hs2 Lim.nil) h2 (Lim.cons ht2 Lim.nil), ZD_mag, ZD_mag]
  generalize magD ⟨false, [t], -(k : Int)⟩ = x at *
  generalize magD ⟨false, [s], (k : Int)⟩ = y at *
  unfold cmpI
  simp only [sgI, Bool.false_eq_true, if_false]
  rw [if_neg (by omega), if_pos (by omega)]
theorem far_ncmp : cmpD (negS ⟨false, [s], (k : Int)⟩) ⟨false, [t], -(k : Int)⟩ = -1 := by
  obtain ⟨h1, h2⟩ := far_may hs ht hk1 hk2
  have p1 := magD_pos h1 (by simp)
  have p2 := magD_pos h2 (by simp)
  rw [cmpD_Z (negS_may h1) (negS_lim (Lim.cons hs2 Lim.nil)) h2 (Lim.cons ht2 Lim.nil), ZD_neg h1, ZD_mag, ZD_mag]
  generalize magD ⟨false, [t], -(k : Int)⟩ = x at *
  generalize magD ⟨false, [s], (k : Int)⟩ = y at *
  unfold cmpI
  simp only [sgI, Bool.false_eq_true, if_false]
  rw [if_pos (by omega)]
theorem far_mul : ∃ m, twoS ⟨false, [s], (k : Int)⟩ ⟨false, [t], -(k : Int)⟩ (mulS ⟨false, [s], (k : Int)⟩ ⟨false, [t], -(k : Int)⟩) = (m, 0) ∧ m.e = 0 := by
  obtain ⟨h1, h2⟩ := far_may hs ht hk1 hk2
  rw [twoS_of h1 h2]
  unfold mulS
  simp only
  rw [val1L, val1L]
  have ho : s * t % 2 = 1 := by rw [Nat.mul_mod, hs, ht]
  have hl : (limbs BB (s * t)).length ≤ 64 := by
    rw [limbs_len_le BB_gt1]
    have : s * t < BB * BB := Nat.mul_lt_mul'' hs2 ht2
    exact Nat.lt_of_lt_of_le this (by rw [← Nat.pow_two]; exact Nat.pow_le_pow_right BB_pos (by omega))
  refine ⟨⟨false, limbs BB (s * t), 0⟩, ?_, rfl⟩
  rw [fitS_eq (by intro e; rw [e] at ho; omega), tz_odd ho, Nat.pow_zero, Nat.div_one, if_neg (by omega), if_pos (by omega)]
  congr 2
  simp
  omega
end

set_option maxRecDepth 100000 in
set_option maxHeartbeats 8000000 in
theorem dyadFar_any (s t : Nat) (j : Int) (w : World) (hs : s < BB) (ht : t < BB) (hT : TabAt w) :
    Calls Tryd.prog 6 #[.int .u64 (s : Int), .int .u64 (t : Int), .int .i64 j] w fun x w' => x = .returned (.bool true) ∧ Below w.heap.size w w' := by
  have ho1 := or_one hs
  have ho2 := or_one ht
  have hx1 := or_one_lt hs
  have hy1 := or_one_lt ht
  have hx2 := or_one_odd s
  have hy2 := or_one_odd t
  obtain ⟨x, ex⟩ : ∃ x, x = s ||| 1 := ⟨_, rfl⟩
  obtain ⟨y, ey⟩ : ∃ y, y = t ||| 1 := ⟨_, rfl⟩
  rw [← ex] at ho1 hx1 hx2
  rw [← ey] at ho2 hy1 hy2
  clear ex ey
  obtain ⟨k, hk1, hk2, hk3⟩ := far_cut j
  have C1 := hide (far_cmp hx2 hx1 hy2 hy1 hk1 hk2)
  have C2 := hide (far_ncmp hx2 hx1 hy2 hy1 hk1 hk2)
  have C3 := hide (far_sum hx2 hy2 hk1 hk2)
  have C4 := hide (far_sub hx2 hy2 hk1 hk2)
  obtain ⟨m, C5, em⟩ := far_mul hx2 hx1 hy2 hy1 hk1 hk2
  have HM := hide C5
  have EM := hide em
  have hwk : IntKind.i64.wrap (-(k : Int)) = -(k : Int) := IntWalk.i64_in _ (by omega)
  obtain ⟨X, hX⟩ : ∃ X : Dy, X = ⟨false, [x], (k : Int)⟩ := ⟨_, rfl⟩
  obtain ⟨Y, hY⟩ : ∃ Y : Dy, Y = ⟨false, [y], -(k : Int)⟩ := ⟨_, rfl⟩
  rw [← hX, ← hY] at C1 C2 C3 C4 HM
  have hLX : Lim BB [x] := Lim.cons hx1 Lim.nil
  have hLY : Lim BB [y] := Lim.cons hy1 Lim.nil
  have HT := hide hT
  have HO1 := hide ho1
  have HO2 := hide ho2
  have HK3 := hide hk3
  clear hT C5 em hx1 hy1 hx2 hy2 ho1 ho2 hk3
  obtain ⟨hA, hB, hb0⟩ := box_2 w [.int .u64 (x : Int)] [.int .u64 (y : Int)] 38 38
  obtain ⟨b_X, b_Y, hb1⟩ := box_2 ((w.alloc (.cells #[.int .u64 (x : Int)] 38)).alloc (.cells #[.int .u64 (y : Int)] 38)) [.bool false, .slice (some ⟨w.heap.size, 0, none⟩) 1 1, .int .i64 (k : Int)] [.bool false, .slice (some ⟨w.heap.size + 1, 0, none⟩) 1 1, .int .i64 (-(k : Int))] 24 24
  have esz : ((w.alloc (.cells #[.int .u64 (x : Int)] 38)).alloc (.cells #[.int .u64 (y : Int)] 38)).heap.size = w.heap.size + 1 + 1 := by simp
  have hA := hA.keep hb1
  have hB := hB.keep hb1
  have hb0 := below_then hb0 hb1
  rw [esz] at b_X b_Y
  have HT := hide (HT.out.below hb0)
  clear hb1 esz
  go_enter Tryd.func6, Tryd.ntmps6
  go_upto_region 2 with fail
  rw [HK3.out]
  go_upto_region 3 with fail
  rw [HO1.out, HO2.out]
  generalize (((w.alloc (.cells #[.int .u64 (x : Int)] 38)).alloc (.cells #[.int .u64 (y : Int)] 38)).alloc (.cells #[.bool false, .slice (some ⟨w.heap.size, 0, none⟩) 1 1, .int .i64 (k : Int)] 24)).alloc (.cells #[.bool false, .slice (some ⟨w.heap.size + 1, 0, none⟩) 1 1, .int .i64 (-(k : Int))] 24) = w0 at *
  have r_X : RdD w0 (.agg #[.bool false, .slice (some ⟨w.heap.size, 0, none⟩) 1 1, .int .i64 (k : Int)]) X := by
    rw [hX]
    exact ⟨_, _, _, rfl, rdOne hA, hLX, by simp only; omega, by simp only; omega⟩
  have r_Y : RdD w0 (.agg #[.bool false, .slice (some ⟨w.heap.size + 1, 0, none⟩) 1 1, .int .i64 (-(k : Int))]) Y := by
    rw [hY]
    exact ⟨_, _, _, rfl, rdOne hB, hLY, by simp only; omega, by simp only; omega⟩
  have hlX : X.m.length ≤ 1000000 := by rw [hX]; simp
  clear hX hY hA hB hLX hLY HO1 HO2 HK3
  have q_X0 := b_X.cell 0 rfl
  have q_X1 := b_X.cell 1 rfl
  have q_X2 := b_X.cell 2 rfl
  have q_Y0 := b_Y.cell 0 rfl
  have q_Y1 := b_Y.cell 1 rfl
  have q_Y2 := b_Y.cell 2 rfl
  go_wp2_with fail
  clear q_X0 q_X1 q_X2 q_Y0 q_Y1 q_Y2
  with_reducible refine (addT _ _ X Y _ r_X r_Y HT.out).mono ?_
  rintro e w1 ⟨⟨d_s, x_s, A_s, n_s, c_s, h_s, rfl, r_s⟩, hb1⟩
  have r_X_1 := r_X.below hb1
  have b_X_1 := b_X.keep hb1
  have r_Y_1 := r_Y.below hb1
  have b_Y_1 := b_Y.keep hb1
  have HT_1 := hide (HT.out.below hb1)
  have hbs1 := below_then hb0 hb1
  clear r_X b_X r_Y b_Y HT hb0 hb1
  obtain ⟨e1, e2⟩ := Prod.mk.inj (h_s.out.trans C3.out)
  have D_s := hide e1
  clear e1 h_s
  subst e2
  obtain ⟨b_s_n2, hb2⟩ := box_1 w1 [.bool d_s.neg, .slice A_s n_s c_s, .int .i64 d_s.e] 24
  go_upto_region 4 with fail
  generalize (w1.alloc (.cells #[.bool d_s.neg, .slice A_s n_s c_s, .int .i64 d_s.e] 24)) = w2 at *
  have r_X_2 := r_X_1.below hb2
  have b_X_2 := b_X_1.keep hb2
  have r_Y_2 := r_Y_1.below hb2
  have b_Y_2 := b_Y_1.keep hb2
  have HT_2 := hide (HT_1.out.below hb2)
  have r_s_2 := r_s.below hb2
  have hbs2 := below_then hbs1 hb2
  clear r_X_1 b_X_1 r_Y_1 b_Y_1 HT_1 r_s hbs1 hb2
  have q_X0 := b_X_2.cell 0 rfl
  have q_X1 := b_X_2.cell 1 rfl
  have q_X2 := b_X_2.cell 2 rfl
  have q_Y0 := b_Y_2.cell 0 rfl
  have q_Y1 := b_Y_2.cell 1 rfl
  have q_Y2 := b_Y_2.cell 2 rfl
  go_wp2_with fail
  clear q_X0 q_X1 q_X2 q_Y0 q_Y1 q_Y2
  with_reducible refine (subT _ _ Y X _ r_Y_2 r_X_2 HT_2.out).mono ?_
  rintro e w3 ⟨⟨d_d, x_d, A_d, n_d, c_d, h_d, rfl, r_d⟩, hb3⟩
  have r_X_3 := r_X_2.below hb3
  have b_X_3 := b_X_2.keep hb3
  have r_Y_3 := r_Y_2.below hb3
  have b_Y_3 := b_Y_2.keep hb3
  have HT_3 := hide (HT_2.out.below hb3)
  have r_s_3 := r_s_2.below hb3
  have b_s_3 := b_s_n2.keep hb3
  have hbs3 := below_then hbs2 hb3
  clear r_X_2 b_X_2 r_Y_2 b_Y_2 HT_2 r_s_2 b_s_n2 hbs2 hb3
  obtain ⟨e1, e2⟩ := Prod.mk.inj (h_d.out.trans C4.out)
  have D_d := hide e1
  clear e1 h_d
  subst e2
  obtain ⟨b_d_n4, hb4⟩ := box_1 w3 [.bool d_d.neg, .slice A_d n_d c_d, .int .i64 d_d.e] 24
  go_upto_region 5 with fail
  generalize (w3.alloc (.cells #[.bool d_d.neg, .slice A_d n_d c_d, .int .i64 d_d.e] 24)) = w4 at *
  have r_X_4 := r_X_3.below hb4
  have b_X_4 := b_X_3.keep hb4
  have r_Y_4 := r_Y_3.below hb4
  have b_Y_4 := b_Y_3.keep hb4
  have HT_4 := hide (HT_3.out.below hb4)
  have r_s_4 := r_s_3.below hb4
  have b_s_4 := b_s_3.keep hb4
  have r_d_4 := r_d.below hb4
  have hbs4 := below_then hbs3 hb4
  clear r_X_3 b_X_3 r_Y_3 b_Y_3 HT_3 r_s_3 b_s_3 r_d hbs3 hb4
  have q_X0 := b_X_4.cell 0 rfl
  have q_X1 := b_X_4.cell 1 rfl
  have q_X2 := b_X_4.cell 2 rfl
  have q_Y0 := b_Y_4.cell 0 rfl
  have q_Y1 := b_Y_4.cell 1 rfl
  have q_Y2 := b_Y_4.cell 2 rfl
  go_wp2_with fail
  clear q_X0 q_X1 q_X2 q_Y0 q_Y1 q_Y2
  with_reducible refine (mulT _ _ X Y _ r_X_4 r_Y_4 HT_4.out).mono ?_
  rintro e w5 ⟨⟨d_m, x_m, A_m, n_m, c_m, h_m, rfl, r_m⟩, hb5⟩
  have r_X_5 := r_X_4.below hb5
  have b_X_5 := b_X_4.keep hb5
  have r_Y_5 := r_Y_4.below hb5
  have b_Y_5 := b_Y_4.keep hb5
  have HT_5 := hide (HT_4.out.below hb5)
  have r_s_5 := r_s_4.below hb5
  have b_s_5 := b_s_4.keep hb5
  have r_d_5 := r_d_4.below hb5
  have b_d_5 := b_d_n4.keep hb5
  have hbs5 := below_then hbs4 hb5
  clear r_X_4 b_X_4 r_Y_4 b_Y_4 HT_4 r_s_4 b_s_4 r_d_4 b_d_n4 hbs4 hb5
  obtain ⟨e1, e2⟩ := Prod.mk.inj (h_m.out.trans HM.out)
  have D_m := hide e1
  clear e1 h_m
  subst e2
  obtain ⟨b_m_n6, hb6⟩ := box_1 w5 [.bool d_m.neg, .slice A_m n_m c_m, .int .i64 d_m.e] 24
  go_upto_region 6 with fail
  generalize (w5.alloc (.cells #[.bool d_m.neg, .slice A_m n_m c_m, .int .i64 d_m.e] 24)) = w6 at *
  have r_X_6 := r_X_5.below hb6
  have b_X_6 := b_X_5.keep hb6
  have r_Y_6 := r_Y_5.below hb6
  have b_Y_6 := b_Y_5.keep hb6
  have HT_6 := hide (HT_5.out.below hb6)
  have r_s_6 := r_s_5.below hb6
  have b_s_6 := b_s_5.keep hb6
  have r_d_6 := r_d_5.below hb6
  have b_d_6 := b_d_5.keep hb6
  have r_m_6 := r_m.below hb6
  have hbs6 := below_then hbs5 hb6
  clear r_X_5 b_X_5 r_Y_5 b_Y_5 HT_5 r_s_5 b_s_5 r_d_5 b_d_5 r_m hbs5 hb6
  have e_X0 := b_X_6.cellE b_X_6.lt 0 rfl
  have e_X1 := b_X_6.cellE b_X_6.lt 1 rfl
  have e_X2 := b_X_6.cellE b_X_6.lt 2 rfl
  have e_Y0 := b_Y_6.cellE b_Y_6.lt 0 rfl
  have e_Y1 := b_Y_6.cellE b_Y_6.lt 1 rfl
  have e_Y2 := b_Y_6.cellE b_Y_6.lt 2 rfl
  have e_s0 := b_s_6.cellE b_s_6.lt 0 rfl
  have e_s1 := b_s_6.cellE b_s_6.lt 1 rfl
  have e_s2 := b_s_6.cellE b_s_6.lt 2 rfl
  have e_d0 := b_d_6.cellE b_d_6.lt 0 rfl
  have e_d1 := b_d_6.cellE b_d_6.lt 1 rfl
  have e_d2 := b_d_6.cellE b_d_6.lt 2 rfl
  have e_m0 := b_m_n6.cellE b_m_n6.lt 0 rfl
  have e_m1 := b_m_n6.cellE b_m_n6.lt 1 rfl
  have e_m2 := b_m_n6.cellE b_m_n6.lt 2 rfl
  have he_m : d_m.e = 0 := by rw [D_m.out]; exact EM.out
  have E1 : Hid (sameD d_s Dy.zero = true) := by unfold Hid; rw [D_s.out]; exact sameD_self _
  have E2 : Hid (sameD d_d Dy.zero = true) := by unfold Hid; rw [D_d.out]; exact sameD_self _
  go_region_held3 (fun w' => Below w6.heap.size w6 w') (first | exact (Below.refl _ _).drew | exact below_then (by assumption) hbT | exact below_then (by assumption) hbC | exact below_then (by assumption) hbN | exact below_then (by assumption) hbD | exact below_then (by assumption) hbS | exact below_then (by assumption) hbU)
    (first
      | (go_at_call 14; (with_reducible refine (told2_any _ (HT_6.out.below (by assumption))).mono ?_); rintro z wT ⟨rfl, hbT⟩)
      | (go_at_call 33; (with_reducible refine (cmpD_any _ _ X Y _ (r_X_6.below (by assumption)) (r_Y_6.below (by assumption))).mono ?_); rw [C1.out]; rintro z wC ⟨rfl, hbC⟩)
      | (go_at_call 37; (with_reducible refine (negT _ X _ (r_X_6.below (by assumption)) hlX).mono ?_); rintro z wN ⟨⟨A1, n1, c1, rfl, rN⟩, hbN⟩)
      | (go_at_call 33; (with_reducible refine (cmpD_any _ _ (negS X) Y _ rN (r_Y_6.below (by assumption))).mono ?_); rw [C2.out]; rintro z wD ⟨rfl, hbD⟩)
      | (go_at_call 39; (with_reducible refine (sameD_any _ _ d_s Dy.zero _ (r_s_6.below (by assumption)) (RdD.zero _)).mono ?_); rw [E1.out]; rintro z wS ⟨rfl, hbS⟩)
      | (go_at_call 39; (with_reducible refine (sameD_any _ _ d_d Dy.zero _ (r_d_6.below (by assumption)) (RdD.zero _)).mono ?_); rw [E2.out]; rintro z wU ⟨rfl, hbU⟩))
  all_goals
    have hbF := below_then hbs6 (below_then (below_then (below_then (below_then (below_then (below_then (Below.refl w6.heap.size w6).drew hbT) hbC) hbN) hbD) hbS) hbU)
    go_wp2
    go_ret
    exact ⟨rfl, hbF⟩
end Go.Proofs.YtaifjldpjkabjaaDoor
