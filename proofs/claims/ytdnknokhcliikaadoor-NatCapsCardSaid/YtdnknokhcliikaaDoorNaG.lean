/- sluicewaylaw1: the walk of NatCaps. -/
import Derived.Test.YtdnknokhcliikaaDoorNaF
namespace Go.Proofs.YtdnknokhcliikaaDoor
open Go.RowKit Pl

theorem set_last (P D : Nat) : (List.replicate (P + 1) 0).set P D = List.replicate P 0 ++ [D] := by
  rw [List.replicate_succ', List.set_append_right _ _ (by simp)]
  simp
theorem lim_last {P D : Nat} (h : D < BB) : Lim BB (List.replicate P 0 ++ [D]) := (Lim.zeros BB_pos P).append (lim1 h)
theorem val_last (P D : Nat) : val BB (List.replicate P 0 ++ [D]) = BB ^ P * D := by
  rw [val_append, val_zeros, List.length_replicate, val1, Nat.zero_add]
theorem cnl_last {P D : Nat} (h : 0 < D) : Cnl (List.replicate P 0 ++ [D]) := by
  unfold Cnl
  rw [List.getLast?_append]
  simp
  omega
theorem limbs_last {P D : Nat} (h0 : 0 < D) (h : D < BB) : limbs BB (BB ^ P * D) = List.replicate P 0 ++ [D] :=
  limbs_of BB_gt1 (lim_last h) (cnl_last h0) (val_last P D)
theorem may_last {P D : Nat} (h : 64 ≤ P) : mayN (List.replicate P 0 ++ [D]) = false := by
  unfold mayN
  have h1 : (List.replicate P 0 ++ [D]).length = P + 1 := by simp
  rw [h1, decide_eq_false (by omega), decide_eq_false (show ¬ P + 1 ≤ 64 by omega)]
  rfl
theorem or_one {T : Nat} (h : T < BB) : bits .or .u64 (T : Int) 1 = ((T ||| 1 : Nat) : Int) := u64_or_nat T 1 h (by omega)
theorem or_one_lt {T k : Nat} (h : T < 2 ^ k) (hk : 1 ≤ k) : T ||| 1 < 2 ^ k := Nat.or_lt_two_pow h (Nat.lt_of_lt_of_le (by omega) (Nat.pow_le_pow_right (by omega) hk))

theorem wrap_count (j : Int) : ∃ P : Nat, 61 ≤ P ∧ P ≤ 64 ∧ wrap64 (62 + wrap64 ((IntKind.u64.wrap j).tmod 4)) = ((P + 1 : Nat) : Int) := by
  have h1 : IntKind.u64.wrap j = j % 18446744073709551616 := rfl
  have h2 : (IntKind.u64.wrap j).tmod 4 = IntKind.u64.wrap j % 4 := Int.tmod_eq_emod_of_nonneg (by rw [h1]; omega)
  have h3 : 0 ≤ IntKind.u64.wrap j % 4 ∧ IntKind.u64.wrap j % 4 < 4 := by omega
  rw [h2]
  obtain ⟨q, hq⟩ : ∃ q, q = IntKind.u64.wrap j % 4 := ⟨_, rfl⟩
  rw [← hq] at h3 ⊢
  refine ⟨(61 + q).toNat, by omega, by omega, ?_⟩
  unfold wrap64
  omega
theorem low_last {P D : Nat} (hP : P ≤ 62) (hD : D < BB) : capF (BB ^ P * D * 2 ^ 64) = (BB ^ (P + 1) * D, 0) := by
  have e : BB ^ P * D * 2 ^ 64 = BB ^ (P + 1) * D := by rw [← BB_eq, Nat.pow_succ, Nat.mul_right_comm]
  rw [e]
  refine capF_lt ?_
  have h1 : BB ^ (P + 1) * D < BB ^ (P + 1) * BB := (Nat.mul_lt_mul_left (Nat.pow_pos BB_pos)).2 hD
  rw [← Nat.pow_succ] at h1
  exact Nat.lt_of_lt_of_le h1 (Nat.pow_le_pow_right BB_pos (by omega))
theorem high_last {D : Nat} (hD0 : 0 < D) : capF (BB ^ 63 * D * 2 ^ 64) = (0, 2) := by
  have e : BB ^ 63 * D * 2 ^ 64 = BB ^ 64 * D := by rw [← BB_eq, Nat.mul_right_comm, ← Nat.pow_succ]
  rw [e]
  exact capF_ge (Nat.not_lt.2 (Nat.le_mul_of_pos_right _ hD0))
theorem twice_low {P D : Nat} (hP : P ≤ 62) (hD : D < BB) : capF (BB ^ P * D + BB ^ P * D) = (BB ^ P * D + BB ^ P * D, 0) := by
  refine capF_lt (Nat.lt_of_lt_of_le (add_pow (k := P + 1) ?_ ?_) (Nat.pow_le_pow_right BB_pos (by omega)))
  all_goals rw [Nat.pow_succ]; exact (Nat.mul_lt_mul_left (Nat.pow_pos BB_pos)).2 hD
theorem twice_top {D : Nat} (hD : D + D < BB) : capF (BB ^ 63 * D + BB ^ 63 * D) = (BB ^ 63 * D + BB ^ 63 * D, 0) := by
  refine capF_lt ?_
  rw [← Nat.mul_add, Nat.pow_succ BB 63]
  exact (Nat.mul_lt_mul_left (Nat.pow_pos BB_pos)).2 hD
theorem twice_over {D : Nat} (hD : BB ≤ D + D) : capF (BB ^ 63 * D + BB ^ 63 * D) = (0, 2) := by
  refine capF_ge (Nat.not_lt.2 ?_)
  rw [← Nat.mul_add, Nat.pow_succ BB 63]
  exact Nat.mul_le_mul_left _ hD
theorem or_one_le (T : Nat) : T ≤ T ||| 1 := Nat.left_le_or

set_option maxRecDepth 100000 in
set_option maxHeartbeats 4000000 in
theorem natCaps_any (T : Nat) (j : Int) (w : World) (hT0 : T < BB) (hT : TabAt w) :
    Calls Tryd.prog 7 #[.int .u64 (T : Int), .int .i64 j] w fun x w' => x = .returned (.bool true) ∧ Below w.heap.size w w' := by
  have HT := hide hT
  clear hT
  go_enter Tryd.func7, Tryd.ntmps7
  go_upto_region 2 with fail
  obtain ⟨P, hP1, hP2, hP⟩ := wrap_count j
  rw [hP]
  clear hP
  have hD1 : T ||| 1 < BB := or_one_lt (k := 64) (by rw [← BB_eq]; exact hT0) (by omega)
  have hD2 := or_one_le T
  have hD3 : 0 < T ||| 1 := by have : 1 ≤ T ||| 1 := Nat.right_le_or; omega
  have hD4 : T < 2 ^ 63 → T ||| 1 < 2 ^ 63 := fun h => or_one_lt h (by omega)
  have hor := or_one hT0
  obtain ⟨D, eD⟩ : ∃ D, D = T ||| 1 := ⟨_, rfl⟩
  rw [← eD] at hD1 hD2 hD3 hD4 hor
  have HO := hide hor
  clear eD hor
  obtain ⟨i0, hi, hz0, hz1, hz2⟩ := info_parts info_u64
  go_wp2_with (at_make; refine wpList_make_full _ rfl _ _ 22 rfl w.heap.size 37 i0 _ 1 Tryd.underlying22 hi hz0 hz1 .i64 .i64 _ _ (P + 1) rfl rfl ?c1 ?c2 ?c3 ?c4 ?c5 ?_)
  case c1 => omega
  case c2 => omega
  case c3 => rw [hz2]; omega
  case c4 => unfold maxLen; omega
  case c5 => exact Nat.le_refl _
  intro w1 hown1 hg1
  rw [made_u64] at hown1
  have hb1 : Below w.heap.size w w1 := (Below.refl _ _).grown hg1 (Nat.le_refl _) (by simp)
  have hA := own_cell hown1 P (by omega)
  have fA := hown1.frozenAt P
  go_upto_region 4 with fail
  rw [HO.out]
  have hown2 := own_set hown1 P D
  rw [set_last] at hown2
  have hb2 : Below w.heap.size w (w1.setCell ⟨w.heap.size, P, none⟩ (.int .u64 (D : Int))) := hb1.setCell (Nat.le_refl _) _
  clear HO hA fA hown1 hb1 hg1
  generalize w1.setCell ⟨w.heap.size, P, none⟩ (.int .u64 (D : Int)) = W at *
  have hr := RdN.of_own hown2
  have hl := lim_last (P := P) hD1
  have HT2 := hide (HT.out.below hb2)
  clear hown2 hz0 hz1 hz2 hi HT
  rcases Nat.lt_or_ge P 63 with hA | hB
  · have ra : R64 W (.slice (some ⟨w.heap.size, 0, none⟩) (P + 1) (P + 1)) (BB ^ P * D) := ⟨_, _, _, rfl, by rw [limbs_last hD3 hD1]; exact hr⟩
    have hVl : Hid (BB ^ P * D < BB ^ 64) := by
      have h1 : BB ^ P * D < BB ^ P * BB := (Nat.mul_lt_mul_left (Nat.pow_pos BB_pos)).2 hD1
      rw [← Nat.pow_succ] at h1
      exact Nat.lt_of_lt_of_le h1 (Nat.pow_le_pow_right BB_pos (by omega))
    have hShift : Hid (BB ^ P * D * 2 ^ 64 = BB ^ (P + 1) * D) := by unfold Hid; rw [← BB_eq, Nat.pow_succ, Nat.mul_right_comm]
    have hSl : Hid (BB ^ P * D * 2 ^ 64 < BB ^ 64) := by
      unfold Hid; rw [hShift.out]
      have h1 : BB ^ (P + 1) * D < BB ^ (P + 1) * BB := (Nat.mul_lt_mul_left (Nat.pow_pos BB_pos)).2 hD1
      rw [← Nat.pow_succ] at h1
      exact Nat.lt_of_lt_of_le h1 (Nat.pow_le_pow_right BB_pos (by omega))
    have hAl : Hid (BB ^ P * D + BB ^ P * D < BB ^ 64) := by
      have h1 : BB ^ P * D < BB ^ (P + 1) := by rw [Nat.pow_succ]; exact (Nat.mul_lt_mul_left (Nat.pow_pos BB_pos)).2 hD1
      exact Nat.lt_of_lt_of_le (add_pow h1 h1) (Nat.pow_le_pow_right BB_pos (by omega))
    have hLim := hide (limbs_last (P := P + 1) hD3 hD1)
    clear hD1 hD2 hD3 hD4 hT0 hl hr
    go_wp2_with fail
    refine (shlW _ (BB ^ P * D) _ ra hVl.out 64 (by omega) hSl.out).mono ?_
    rintro e w1 ⟨⟨us, rfl, rs⟩, hb1⟩
    have ra_1 := ra.below hb1
    have HT2_1 := hide (HT2.out.below hb1)
    have hbs1 := below_then hb2 hb1
    clear ra HT2 hb2 hb1
    rw [hShift.out] at rs
    obtain ⟨As, ns, cs, rfl, hrs⟩ := rs
    have hns : ns = P + 2 := by rw [← hrs.len, hLim.out]; simp
    have hcs := hrs.cap
    have hms := hrs.max
    unfold maxLen at hms
    subst hns
    clear hrs
    go_wp2_with fail
    refine (addW _ _ (BB ^ P * D) (BB ^ P * D) _ ra_1 ra_1 hVl.out hVl.out hAl.out).mono ?_
    rintro e w2 ⟨⟨ut, rfl, rt⟩, hb2⟩
    have ra_2 := ra_1.below hb2
    have HT2_2 := hide (HT2_1.out.below hb2)
    have hbs2 := below_then hbs1 hb2
    clear ra_1 HT2_1 hbs1 hb2
    clear rt
    have d1 : decide ((P : Int) + 1 ≤ 64) = true := decide_eq_true (by omega)
    have d3 : ((P : Int) + 2 == (P : Int) + 1 + 1) = true := by rw [beq_iff_eq]; omega
    have d2 : ((P : Int) + 1 == 64) = false := by rw [beq_eq_false_iff_ne]; omega
    go_wp2_with fail
    refine (mayV _ (BB ^ P * D) _ ra_2 hVl.out).mono ?_
    rintro e w' ⟨rfl, rfl⟩
    clear ra_2
    go_wp2_with fail
    refine (told1_any _ HT2_2.out).mono ?_
    rintro e w3 ⟨rfl, hb3⟩
    have HT2_3 := hide (HT2_2.out.below hb3)
    have hbs3 := below_then hbs2 hb3
    clear HT2_2 hbs2 hb3
    clear HT2_3
    go_wp2_with fail
    go_ret
    exact ⟨rfl, hbs3⟩
  · rcases Nat.lt_or_ge P 64 with hB2 | hC
    · obtain rfl : P = 63 := by omega
      have ra : R64 W (.slice (some ⟨w.heap.size, 0, none⟩) 64 64) (BB ^ 63 * D) := ⟨_, _, _, rfl, by rw [limbs_last hD3 hD1]; exact hr⟩
      have hVl : Hid (BB ^ 63 * D < BB ^ 64) := by
        have h1 : BB ^ 63 * D < BB ^ 63 * BB := (Nat.mul_lt_mul_left (Nat.pow_pos BB_pos)).2 hD1
        rw [← Nat.pow_succ] at h1
        exact Nat.lt_of_lt_of_le h1 (Nat.pow_le_pow_right BB_pos (by omega))
      have hHi := hide (high_last hD3)
      have hm0 : mayN (List.replicate 63 0 ++ [D]) = true := by rw [← limbs_last hD3 hD1]; exact may_limbs hVl.out
      have hSh : Hid (shlR (List.replicate 63 0 ++ [D]) 64 = (0, 2)) := by unfold Hid; rw [shlR_cap hl hm0 (by simp) (by omega), val_last]; exact hHi.out
      have hS := fun w h => shlF_any (some ⟨w.heap.size, 0, none⟩) 64 64 _ w h hl 64 (by omega) (by omega)
      have HL := hide hl
      rcases Nat.lt_or_ge T (2 ^ 63) with hlow | hlow
      · have hAl : Hid (BB ^ 63 * D + BB ^ 63 * D < BB ^ 64) := by
          unfold Hid; rw [← Nat.mul_add, Nat.pow_succ BB 63]
          refine (Nat.mul_lt_mul_left (Nat.pow_pos BB_pos)).2 ?_
          have := hD4 hlow
          unfold BB; omega
        have hts : decide ((T : Int) < 9223372036854775808) = true := decide_eq_true (by omega)
        clear hD1 hD2 hD3 hD4 hT0 hl hm0 hHi hB hB2 hP1 hP2 hS hlow
        go_wp2_with fail
        refine (shlF_any _ _ _ _ _ hr HL.out 64 (by omega) (by omega)).mono ?_
        rw [hSh.out]
        rintro e w1 ⟨⟨us, rfl, rs⟩, hb1⟩
        obtain ⟨As, cs, rfl⟩ := rs.zero
        clear rs
        have ra_1 := ra.below hb1
        have hr_1 := hr.below hb1
        have HT2_1 := hide (HT2.out.below hb1)
        have hbs1 := below_then hb2 hb1
        clear ra hr HT2 hb2 hb1
        go_wp2_with fail
        refine (addW _ _ (BB ^ 63 * D) (BB ^ 63 * D) _ ra_1 ra_1 hVl.out hVl.out hAl.out).mono ?_
        rintro e w2 ⟨⟨ut, rfl, rt⟩, hb2⟩
        have ra_2 := ra_1.below hb2
        have hr_2 := hr_1.below hb2
        have HT2_2 := hide (HT2_1.out.below hb2)
        have hbs2 := below_then hbs1 hb2
        clear ra_1 hr_1 HT2_1 hbs1 hb2
        clear rt
        clear hr_2
        go_wp2_with fail
        refine (mayV _ (BB ^ 63 * D) _ ra_2 hVl.out).mono ?_
        rintro e w' ⟨rfl, rfl⟩
        clear ra_2
        go_wp2_with fail
        refine (told1_any _ HT2_2.out).mono ?_
        rintro e w3 ⟨rfl, hb3⟩
        have HT2_3 := hide (HT2_2.out.below hb3)
        have hbs3 := below_then hbs2 hb3
        clear HT2_2 hbs2 hb3
        clear HT2_3
        go_wp2_with fail
        go_ret
        exact ⟨rfl, hbs3⟩
      · have hOv := hide (twice_over (D := D) (by unfold BB; omega))
        have hts : decide ((T : Int) < 9223372036854775808) = false := decide_eq_false (by omega)
        clear hD1 hD2 hD3 hD4 hT0 hl hm0 hHi hB hB2 hP1 hP2 hS hlow
        go_wp2_with fail
        refine (shlF_any _ _ _ _ _ hr HL.out 64 (by omega) (by omega)).mono ?_
        rw [hSh.out]
        rintro e w1 ⟨⟨us, rfl, rs⟩, hb1⟩
        obtain ⟨As, cs, rfl⟩ := rs.zero
        clear rs
        have ra_1 := ra.below hb1
        have hr_1 := hr.below hb1
        have HT2_1 := hide (HT2.out.below hb1)
        have hbs1 := below_then hb2 hb1
        clear ra hr HT2 hb2 hb1
        go_wp2_with fail
        refine (addV _ _ (BB ^ 63 * D) (BB ^ 63 * D) _ ra_1 ra_1 hVl.out hVl.out).mono ?_
        rw [hOv.out]
        rintro e w2 ⟨⟨ut, rfl, rt⟩, hb2⟩
        have ra_2 := ra_1.below hb2
        have hr_2 := hr_1.below hb2
        have HT2_2 := hide (HT2_1.out.below hb2)
        have hbs2 := below_then hbs1 hb2
        clear ra_1 hr_1 HT2_1 hbs1 hb2
        clear rt
        clear hr_2
        go_wp2_with fail
        refine (mayV _ (BB ^ 63 * D) _ ra_2 hVl.out).mono ?_
        rintro e w' ⟨rfl, rfl⟩
        clear ra_2
        go_wp2_with fail
        refine (told1_any _ HT2_2.out).mono ?_
        rintro e w3 ⟨rfl, hb3⟩
        have HT2_3 := hide (HT2_2.out.below hb3)
        have hbs3 := below_then hbs2 hb3
        clear HT2_2 hbs2 hb3
        clear HT2_3
        go_wp2_with fail
        go_ret
        exact ⟨rfl, hbs3⟩
    · obtain rfl : P = 64 := by omega
      have hm0 := may_last (P := 64) (D := D) (Nat.le_refl _)
      have hSh : Hid (shlR (List.replicate 64 0 ++ [D]) 64 = (0, 1)) := shlR_bad (.inl hm0)
      have HM : Hid (mayN (List.replicate 64 0 ++ [D]) = false) := hm0
      have HL := hide hl
      clear hD1 hD2 hD3 hD4 hT0 hl hm0 hB hC hP1 hP2
      go_wp2_with fail
      refine (shlF_any _ _ _ _ _ hr HL.out 64 (by omega) (by omega)).mono ?_
      rw [hSh.out]
      rintro e w1 ⟨⟨us, rfl, rs⟩, hb1⟩
      obtain ⟨As, cs, rfl⟩ := rs.zero
      clear rs
      have hr_1 := hr.below hb1
      have HT2_1 := hide (HT2.out.below hb1)
      have hbs1 := below_then hb2 hb1
      clear hr HT2 hb2 hb1
      go_wp2_with fail
      refine (addBad _ _ _ _ _ _ _ _ _ hr_1 hr_1 HL.out HL.out (by rw [HM.out]; rfl)).mono ?_
      rintro e w2 ⟨⟨At, ct, rfl⟩, hb2⟩
      have hr_2 := hr_1.below hb2
      have HT2_2 := hide (HT2_1.out.below hb2)
      have hbs2 := below_then hbs1 hb2
      clear hr_1 HT2_1 hbs1 hb2
      go_wp2_with fail
      refine (may_any _ _ _ _ _ hr_2).mono ?_
      rw [HM.out]
      rintro e w' ⟨rfl, rfl⟩
      clear hr_2
      go_wp2_with fail
      refine (told1_any _ HT2_2.out).mono ?_
      rintro e w3 ⟨rfl, hb3⟩
      have HT2_3 := hide (HT2_2.out.below hb3)
      have hbs3 := below_then hbs2 hb3
      clear HT2_2 hbs2 hb3
      clear HT2_3
      go_wp2_with fail
      go_ret
      exact ⟨rfl, hbs3⟩
end Go.Proofs.YtdnknokhcliikaaDoor
