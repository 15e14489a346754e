/- math/bits.Div64. -/
import Derived.Test.YteodljieiloebaaDoorKitBx
import Derived.Test.YteodljieiloebaaDoorPlx
namespace Go.Proofs.YteodljieiloebaaDoor
open Go.RowKit Pl

theorem rest_int {t u q V : Nat} (hq : q = (t * HH + u) / V) (hV : V < BB) (hV0 : 0 < V) :
    IntKind.u64.wrap (IntKind.u64.wrap (IntKind.u64.wrap ((t : Int) * 4294967296) + (u : Int)) - IntKind.u64.wrap ((q : Int) * (V : Int))) = (((t * HH + u) % V : Nat) : Int) := by
  have h := rest_round hq hV hV0
  rw [← h]
  have e1 : ((q : Int) * (V : Int)) = ((q * V : Nat) : Int) := (Int.natCast_mul q V).symm
  rw [e1]
  generalize q * V = p
  simp only [IntKind.wrap_u64]
  unfold HH BB
  omega
set_option maxRecDepth 100000 in
set_option maxHeartbeats 1000000 in
theorem div64_low (lo y : Nat) (w : World) (hy0 : 0 < y) (hlo : lo < BB) (_hy : y < BB) :
    Calls Tryd.prog 117 #[.int .u64 0, .int .u64 (lo : Int), .int .u64 (y : Int)] w fun e w' => e = .returned (.tuple #[.int .u64 ((lo / y : Nat) : Int), .int .u64 ((lo % y : Nat) : Int)]) ∧ Below w.heap.size w w' := by
  have e1 : ((y : Int) == 0) = false := beq_eq_false_iff_ne.2 (by omega)
  have e2 : decide ((y : Int) ≤ 0) = false := by simp; omega
  have hy1 : (1 : Int) ≤ (y : Int) := by omega
  have e3 : decide (y ≤ 0) = false := by simp; omega
  have e4 : y ≠ 0 := by omega
  unfold BB at hlo
  go_enter Tryd.func117, Tryd.ntmps117
  go_upto_region 6 with fail
  go_quiet (fail)
  go_wp2
  go_ret2
  have e5 : IntKind.u64.wrap ((lo : Int) / (y : Int)) = ((lo / y : Nat) : Int) := by
    have h1 : lo / y ≤ lo := Nat.div_le_self _ _
    have h2 : ((lo : Int) / (y : Int)) = ((lo / y : Nat) : Int) := (Int.natCast_ediv lo y).symm
    rw [h2]
    generalize lo / y = z at *
    rw [IntKind.wrap_u64]
    omega
  refine ⟨?_, below_drewN (Below.refl _ _) _⟩
  show Ending.returned (.tuple #[.int .u64 (IntKind.u64.wrap ((lo : Int) / (y : Int))), .int .u64 ((lo : Int) % (y : Int))]) = _
  rw [e5, Int.natCast_emod]
set_option maxRecDepth 100000 in
set_option maxHeartbeats 1000000 in
theorem div64_high (hi lo y : Nat) (w : World) (h0 : 0 < hi) (hhi : hi < y) (hlo : lo < BB) (hy : y < BB) :
    Calls Tryd.prog 117 #[.int .u64 (hi : Int), .int .u64 (lo : Int), .int .u64 (y : Int)] w fun e w' => e = .returned (.tuple #[.int .u64 (((hi * BB + lo) / y : Nat) : Int), .int .u64 (((hi * BB + lo) % y : Nat) : Int)]) ∧ Below w.heap.size w w' := by
  have e1 : ((y : Int) == 0) = false := beq_eq_false_iff_ne.2 (by omega)
  have e2 : decide (y ≤ hi) = false := by simp; omega
  have e3 : ((hi : Int) == 0) = false := beq_eq_false_iff_ne.2 (by omega)
  obtain ⟨n1, n2, n3, n4⟩ := norm_word (show y ≠ 0 by omega) hy
  obtain ⟨s, hs⟩ : ∃ s, s = 64 - blen y := ⟨_, rfl⟩
  rw [← hs] at n1 n2
  have hs1 : (64 - (blen y : Int)) = (s : Int) := by omega
  have hs2 : s ≤ 63 := by omega
  have hL := fun w => lz_any y hy w
  rw [hs1] at hL
  have HL := hide hL
  clear hL hs1 hs n3 n4
  unfold BB at hlo hy
  go_enter Tryd.func117, Tryd.ntmps117
  go_upto_region 9 with (go_at_call 89; refine (HL.out _).mono ?_; rintro e w' ⟨rfl, rfl⟩)
  rw [wrap_shl, Nat.mod_eq_of_lt n1]
  obtain ⟨v, hv⟩ : ∃ v, v = y * 2 ^ s := ⟨_, rfl⟩
  rw [← hv] at n1 n2 ⊢
  have HV := hide hv
  clear hv
  unfold BB at n1
  have hs3 : 1 ≤ 64 - s := by omega
  have w64 : IntKind.u64.wrap (64 - (s : Int)) = ((64 - s : Nat) : Int) := by rw [IntKind.wrap_u64]; omega
  go_upto_region 15 with fail
  have hv1 : hi * 2 ^ s < v := by rw [HV.out]; exact (Nat.mul_lt_mul_right (Nat.two_pow_pos s)).2 hhi
  have a9 : ((v : Int) / 4294967296) = ((v / HH : Nat) : Int) := by unfold HH; omega
  have a10 : bits .and .u64 (v : Int) 4294967295 = ((v % HH : Nat) : Int) := by
    have h := u64_and_nat v 4294967295 n1 (by omega)
    rw [nat_mask32] at h
    exact h
  obtain ⟨T, hT⟩ : ∃ T, T = hi * 2 ^ s + lo / 2 ^ (64 - s) := ⟨_, rfl⟩
  have a11 : bits .or .u64 (IntKind.u64.wrap ((hi : Int) * 2 ^ s)) ((lo : Int) / 2 ^ (64 - s)) = (T : Int) := by
    have h1 : hi * 2 ^ s < 18446744073709551616 := by omega
    have h2 : lo / 2 ^ (64 - s) < 2 ^ s := by
      rw [Nat.div_lt_iff_lt_mul (Nat.two_pow_pos _), ← Nat.pow_add, show s + (64 - s) = 64 by omega]
      exact hlo
    have h3 : lo / 2 ^ (64 - s) < 18446744073709551616 := Nat.lt_of_le_of_lt (Nat.div_le_self _ _) hlo
    rw [wrap_shl, Nat.mod_eq_of_lt (show hi * 2 ^ s < BB from h1), shr_val, u64_or_nat _ _ h1 h3, nat_join s _ _ (Nat.mul_mod_left _ _) h2, hT]
  obtain ⟨L, hL⟩ : ∃ L, L = lo * 2 ^ s % BB := ⟨_, rfl⟩
  have hLl : L < 18446744073709551616 := by rw [hL]; exact Nat.mod_lt _ BB_pos
  have a12 : IntKind.u64.wrap ((lo : Int) * 2 ^ s) = (L : Int) := by rw [wrap_shl, hL]
  have a13 : ((L : Int) / 4294967296) = ((L / HH : Nat) : Int) := by unfold HH; omega
  have a14 : bits .and .u64 (L : Int) 4294967295 = ((L % HH : Nat) : Int) := by
    have h := u64_and_nat L 4294967295 hLl (by omega)
    rw [nat_mask32] at h
    exact h
  rw [a9, a10, a11, a12, a13, a14]
  clear a9 a10 a11 a12 a13 a14
  have hTv : T < v := by
    have h2 : lo / 2 ^ (64 - s) < 2 ^ s := by
      rw [Nat.div_lt_iff_lt_mul (Nat.two_pow_pos _), ← Nat.pow_add, show s + (64 - s) = 64 by omega]
      exact hlo
    have h4 : (hi + 1) * 2 ^ s ≤ y * 2 ^ s := Nat.mul_le_mul_right _ hhi
    rw [Nat.add_mul, Nat.one_mul, ← HV.out] at h4
    omega
  have HT := hide hT
  have HL2 := hide hL
  obtain ⟨y1, hy1⟩ : ∃ y1, y1 = v / HH := ⟨_, rfl⟩
  obtain ⟨y0, hy0⟩ : ∃ y0, y0 = v % HH := ⟨_, rfl⟩
  obtain ⟨u1, hu1⟩ : ∃ u1, u1 = L / HH := ⟨_, rfl⟩
  obtain ⟨u0, hu0⟩ : ∃ u0, u0 = L % HH := ⟨_, rfl⟩
  rw [← hy1, ← hy0, ← hu1, ← hu0]
  have b1 : 2147483648 ≤ y1 ∧ y1 < 4294967296 := by rw [hy1]; unfold HH; omega
  have b0 : y0 < 4294967296 := by rw [hy0]; exact Nat.mod_lt _ (by decide)
  have b2 : u1 < 4294967296 := by rw [hu1]; unfold HH; omega
  have b3 : u0 < 4294967296 := by rw [hu0]; exact Nat.mod_lt _ (by decide)
  have HVs : Hid (v = y1 * HH + y0) := by unfold Hid; rw [hy1, hy0]; unfold HH; omega
  have HLs : Hid (L = u1 * HH + u0) := by unfold Hid; rw [hu1, hu0]; unfold HH; omega
  clear hT hL hy1 hy0 hu1 hu0 hv1 e1 e2 e3 hs3 w64 HL
  have d1 : IntKind.u64.wrap ((T : Int) / (y1 : Int)) = ((T / y1 : Nat) : Int) := by
    have h1 : T / y1 ≤ T := Nat.div_le_self _ _
    have h2 : ((T : Int) / (y1 : Int)) = ((T / y1 : Nat) : Int) := (Int.natCast_ediv T y1).symm
    rw [h2]
    generalize T / y1 = z at *
    rw [IntKind.wrap_u64]
    omega
  obtain ⟨b11, b12⟩ := b1
  have b13 : (1 : Int) ≤ (y1 : Int) := by omega
  have hTvT := hTv
  have rest_of : ∀ t : Nat, t < 18446744073709551616 → IntKind.u64.wrap ((t : Int) - IntKind.u64.wrap (((t / y1 : Nat) : Int) * (y1 : Int))) = ((t % y1 : Nat) : Int) := by
    intro t ht
    have h1 := Nat.div_add_mod t y1
    have h2 : t / y1 * y1 ≤ t := Nat.div_mul_le_self t y1
    have h3 : (((t / y1 : Nat) : Int) * (y1 : Int)) = ((t / y1 * y1 : Nat) : Int) := (Int.natCast_mul _ _).symm
    have h4 : t % y1 = t - t / y1 * y1 := by rw [Nat.mul_comm] at h1; omega
    rw [h3, h4]
    simp only [IntKind.wrap_u64]
    omega
  have INT : Value.int .u64 (IntKind.u64.wrap ((T : Int) - IntKind.u64.wrap ((T : Int) / (y1 : Int) * (y1 : Int)))) = .int .u64 ((T % y1 : Nat) : Int) := by
    have := rest_of T (by omega)
    rw [Int.natCast_ediv] at this
    rw [this]
  obtain ⟨Q1, hQ1⟩ : ∃ Q1, Q1 = (T * HH + u1) / v := ⟨_, rfl⟩
  have HQQ1 := hide hQ1
  have hQ1b : Q1 < 4294967296 := by
    rw [hQ1, Nat.div_lt_iff_lt_mul (by omega)]
    have : T * 4294967296 + 4294967296 ≤ v * 4294967296 := by rw [← Nat.succ_mul]; exact Nat.mul_le_mul_right _ hTv
    unfold HH
    omega
  obtain ⟨r1, hr1⟩ : ∃ r1, r1 = (T * HH + u1) % v := ⟨_, rfl⟩
  have hTvr1 : r1 < v := by rw [hr1]; exact Nat.mod_lt _ (by omega)
  have R1 := rest_int hQ1 (show v < BB from n1) (by omega)
  rw [← hr1] at R1
  obtain ⟨Q0, hQ0⟩ : ∃ Q0, Q0 = (r1 * HH + u0) / v := ⟨_, rfl⟩
  have HQQ0 := hide hQ0
  have hQ0b : Q0 < 4294967296 := by
    rw [hQ0, Nat.div_lt_iff_lt_mul (by omega)]
    have : r1 * 4294967296 + 4294967296 ≤ v * 4294967296 := by rw [← Nat.succ_mul]; exact Nat.mul_le_mul_right _ hTvr1
    unfold HH
    omega
  obtain ⟨r0, hr0⟩ : ∃ r0, r0 = (r1 * HH + u0) % v := ⟨_, rfl⟩
  have R0 := rest_int hQ0 (show v < BB from n1) (by omega)
  rw [← hr0] at R0
  have INr1 : Value.int .u64 (IntKind.u64.wrap ((r1 : Int) - IntKind.u64.wrap ((r1 : Int) / (y1 : Int) * (y1 : Int)))) = .int .u64 ((r1 % y1 : Nat) : Int) := by
    have := rest_of r1 (by omega)
    rw [Int.natCast_ediv] at this
    rw [this]
  have FIN : Hid (Q1 * HH + Q0 = (hi * BB + lo) / y ∧ r0 / 2 ^ s = (hi * BB + lo) % y) := by
    refine div64_join (s := s) (t := T) (u1 := u1) (u0 := u0) (q1 := Q1) (r1 := r1) (q0 := Q0) (r0 := r0) (by omega) ?_ (by rw [hQ1, HV.out]) (by rw [hr1, HV.out]) (by rw [hQ0, HV.out]) (by rw [hr0, HV.out])
    rw [div64_words (by omega), ← HT.out, ← HL2.out, HLs.out, ← HH_sq, Nat.add_mul, Nat.mul_assoc, Nat.add_assoc]
  clear hQ1 hr1 hQ0 hr0 rest_of
  have d2 : IntKind.u64.wrap ((r1 : Int) / (y1 : Int)) = ((r1 / y1 : Nat) : Int) := by
    have h1 : r1 / y1 ≤ r1 := Nat.div_le_self _ _
    have h2 : ((r1 : Int) / (y1 : Int)) = ((r1 / y1 : Nat) : Int) := (Int.natCast_ediv r1 y1).symm
    rw [h2]
    generalize r1 / y1 = z at *
    rw [IntKind.wrap_u64]
    omega
  have IT := hide INT
  have IR := hide INr1
  have D2 := hide d2
  have RR1 := hide R1
  have RR0 := hide R0
  clear INT INr1 d2 R1 R0 HT HL2 HLs
  have INT := IT.out
  go_upto_block 0 with fail
  go_cut [15, 16] (fun a b wx => a = .int .u64 (Q1 : Int) ∧ wx = w)
  case first =>
    go_wp2_with fail
    go_loop [15, 16] (fun a b => ∃ x R : Nat, a = .int .u64 (x : Int) ∧ b = .int .u64 (R : Int) ∧ Hid (HalfInv HH y1 y0 T u1 x R) ∧ x ≤ 18446744073709551615) (fun a _ => (intOf a).toNat)
    case atStart => exact ⟨T / y1, T % y1, by first | rw [Int.natCast_ediv] | rfl, by first | rw [Int.natCast_emod] | rfl | exact INT, hide (HalfInv.start (by omega) (by unfold HH; omega) (by unfold HH; omega)), by have : T / y1 ≤ T := Nat.div_le_self _ _; omega⟩
    case round =>
      obtain ⟨x, R, rfl, rfl, hinv, hxb⟩ := hrel
      have hR : R < 4294967296 := hinv.out.small
      have LT : T * HH + u1 < HH * (y1 * HH + y0) := by
        rw [← HVs.out]
        have : T * HH + HH ≤ v * HH := by rw [← Nat.succ_mul]; exact Nat.mul_le_mul_right _ hTvT
        have h2 : u1 < HH := by unfold HH; omega
        rw [Nat.mul_comm HH v]
        omega
      have back : ∀ (hc : HH ≤ x ∨ R * HH + u1 < x * y0), 0 < x ∧ Hid ((T * HH + u1) / (y1 * HH + y0) ≤ x - 1) ∧ Hid ((x - 1) * y1 + (R + y1) = T) := fun hc => hinv.out.step LT hc
      have over : ∀ (h1 : Hid ((T * HH + u1) / (y1 * HH + y0) ≤ x - 1)) (h2 : Hid ((x - 1) * y1 + (R + y1) = T)) (hR : HH ≤ R + y1), Hid (x - 1 = Q1) := fun h1 h2 hR => by
        unfold Hid
        rw [HQQ1.out, HVs.out]
        exact (half_over h1.out h2.out LT (by unfold HH; omega) hR).1
      have done : ∀ (hc : x * y0 ≤ R * HH + u1), Hid (x = Q1) := fun hc => by
        unfold Hid
        rw [HQQ1.out, HVs.out]
        exact half_done hinv.out.ge hinv.out.sum (by rw [← HVs.out]; omega) hc
      have BACK := hide back
      have OVER := hide over
      have DONE := hide done
      have HXB := hide hxb
      clear back over done LT hxb hinv INT d1
      by_cases hx : 4294967296 ≤ x
      · have t1 : decide ((4294967296 : Int) ≤ (x : Int)) = true := decide_eq_true (by omega)
        obtain ⟨k1, k2, k3⟩ := BACK.out (.inl hx)
        have m1 : 1 ≤ x := k1
        obtain ⟨x', hx'⟩ : ∃ x', x' = x - 1 := ⟨_, rfl⟩
        have m0 : IntKind.u64.wrap ((x : Int) - 1) = (x' : Int) := by
          have := HXB.out
          rw [IntKind.wrap_u64]; omega
        have HX' := hide hx'
        clear hx'
        by_cases hover : 4294967296 ≤ R + y1
        · have t3 : decide ((4294967296 : Int) ≤ (R : Int) + (y1 : Int)) = true := decide_eq_true (by omega)
          have k4 := OVER.out k2 k3 hover
          go_wp2
          go_meet
          exact ⟨by rw [← k4.out, ← HX'.out], rfl⟩
        · have t3 : decide ((4294967296 : Int) ≤ (R : Int) + (y1 : Int)) = false := decide_eq_false (by omega)
          have k4 : Hid (HalfInv HH y1 y0 T u1 x' (R + y1)) := ⟨by rw [HX'.out]; exact k2.out, by rw [HX'.out]; exact k3.out, by unfold HH; omega⟩
          go_wp2
          go_round
          case rel => exact ⟨x', R + y1, rfl, by go_num, k4, by have := HXB.out; have := HX'.out; omega⟩
          case measure => have := HX'.out; simp [intOf]; omega
      · have t1 : decide ((4294967296 : Int) ≤ (x : Int)) = false := decide_eq_false (by omega)
        obtain ⟨p, hp⟩ : ∃ p, p = x * y0 := ⟨_, rfl⟩
        have hpl : p < 18446744073709551616 := by
          rw [hp]
          have : x * y0 ≤ 4294967295 * 4294967295 := Nat.mul_le_mul (by omega) (by omega)
          omega
        have m2 : IntKind.u64.wrap ((x : Int) * (y0 : Int)) = (p : Int) := by
          rw [← Int.natCast_mul, ← hp, IntKind.wrap_u64]; omega
        by_cases hc : 4294967296 * R + u1 < p
        · have t2 : decide (4294967296 * (R : Int) + (u1 : Int) < (p : Int)) = true := decide_eq_true (by omega)
          obtain ⟨k1, k2, k3⟩ := BACK.out (.inr (by rw [← hp]; unfold HH; omega))
          have m1 : 1 ≤ x := k1
          clear hp
          obtain ⟨x', hx'⟩ : ∃ x', x' = x - 1 := ⟨_, rfl⟩
          have m0 : IntKind.u64.wrap ((x : Int) - 1) = (x' : Int) := by
            have := HXB.out
            rw [IntKind.wrap_u64]; omega
          have HX' := hide hx'
          clear hx'
          by_cases hover : 4294967296 ≤ R + y1
          · have t3 : decide ((4294967296 : Int) ≤ (R : Int) + (y1 : Int)) = true := decide_eq_true (by omega)
            have k4 := OVER.out k2 k3 hover
            go_wp2
            go_meet
            exact ⟨by rw [← k4.out, ← HX'.out], rfl⟩
          · have t3 : decide ((4294967296 : Int) ≤ (R : Int) + (y1 : Int)) = false := decide_eq_false (by omega)
            have k4 : Hid (HalfInv HH y1 y0 T u1 x' (R + y1)) := ⟨by rw [HX'.out]; exact k2.out, by rw [HX'.out]; exact k3.out, by unfold HH; omega⟩
            go_wp2
            go_round
            case rel => exact ⟨x', R + y1, rfl, by go_num, k4, by have := HXB.out; have := HX'.out; omega⟩
            case measure => have := HX'.out; simp [intOf]; omega
        · have t2 : decide (4294967296 * (R : Int) + (u1 : Int) < (p : Int)) = false := decide_eq_false (by omega)
          have k1 := DONE.out (by rw [← hp]; unfold HH; omega)
          clear hp
          go_wp2
          go_meet
          exact ⟨by rw [k1.out], rfl⟩
  obtain ⟨rfl, hwc⟩ := hcut
  obtain rfl := hwc
  clear INT d1
  go_upto_region 22 with fail
  rw [RR1.out]
  have INr1 := IR.out
  have d2 := D2.out
  go_upto_block 2 with fail
  go_cut [18, 16] (fun a b wx => a = .int .u64 (Q0 : Int) ∧ wx = wc)
  case first =>
    go_wp2_with fail
    go_loop [18, 16] (fun a b => ∃ x R : Nat, a = .int .u64 (x : Int) ∧ b = .int .u64 (R : Int) ∧ Hid (HalfInv HH y1 y0 r1 u0 x R) ∧ x ≤ 18446744073709551615) (fun a _ => (intOf a).toNat)
    case atStart => exact ⟨r1 / y1, r1 % y1, by first | rw [Int.natCast_ediv] | rfl, by first | rw [Int.natCast_emod] | rfl | exact INr1, hide (HalfInv.start (by omega) (by unfold HH; omega) (by unfold HH; omega)), by have : r1 / y1 ≤ r1 := Nat.div_le_self _ _; omega⟩
    case round =>
      obtain ⟨x, R, rfl, rfl, hinv, hxb⟩ := hrel
      have hR : R < 4294967296 := hinv.out.small
      have LT : r1 * HH + u0 < HH * (y1 * HH + y0) := by
        rw [← HVs.out]
        have : r1 * HH + HH ≤ v * HH := by rw [← Nat.succ_mul]; exact Nat.mul_le_mul_right _ hTvr1
        have h2 : u0 < HH := by unfold HH; omega
        rw [Nat.mul_comm HH v]
        omega
      have back : ∀ (hc : HH ≤ x ∨ R * HH + u0 < x * y0), 0 < x ∧ Hid ((r1 * HH + u0) / (y1 * HH + y0) ≤ x - 1) ∧ Hid ((x - 1) * y1 + (R + y1) = r1) := fun hc => hinv.out.step LT hc
      have over : ∀ (h1 : Hid ((r1 * HH + u0) / (y1 * HH + y0) ≤ x - 1)) (h2 : Hid ((x - 1) * y1 + (R + y1) = r1)) (hR : HH ≤ R + y1), Hid (x - 1 = Q0) := fun h1 h2 hR => by
        unfold Hid
        rw [HQQ0.out, HVs.out]
        exact (half_over h1.out h2.out LT (by unfold HH; omega) hR).1
      have done : ∀ (hc : x * y0 ≤ R * HH + u0), Hid (x = Q0) := fun hc => by
        unfold Hid
        rw [HQQ0.out, HVs.out]
        exact half_done hinv.out.ge hinv.out.sum (by rw [← HVs.out]; omega) hc
      have BACK := hide back
      have OVER := hide over
      have DONE := hide done
      have HXB := hide hxb
      clear back over done LT hxb hinv INr1 d2
      by_cases hx : 4294967296 ≤ x
      · have t1 : decide ((4294967296 : Int) ≤ (x : Int)) = true := decide_eq_true (by omega)
        obtain ⟨k1, k2, k3⟩ := BACK.out (.inl hx)
        have m1 : 1 ≤ x := k1
        obtain ⟨x', hx'⟩ : ∃ x', x' = x - 1 := ⟨_, rfl⟩
        have m0 : IntKind.u64.wrap ((x : Int) - 1) = (x' : Int) := by
          have := HXB.out
          rw [IntKind.wrap_u64]; omega
        have HX' := hide hx'
        clear hx'
        by_cases hover : 4294967296 ≤ R + y1
        · have t3 : decide ((4294967296 : Int) ≤ (R : Int) + (y1 : Int)) = true := decide_eq_true (by omega)
          have k4 := OVER.out k2 k3 hover
          go_wp2
          go_meet
          exact ⟨by rw [← k4.out, ← HX'.out], rfl⟩
        · have t3 : decide ((4294967296 : Int) ≤ (R : Int) + (y1 : Int)) = false := decide_eq_false (by omega)
          have k4 : Hid (HalfInv HH y1 y0 r1 u0 x' (R + y1)) := ⟨by rw [HX'.out]; exact k2.out, by rw [HX'.out]; exact k3.out, by unfold HH; omega⟩
          go_wp2
          go_round
          case rel => exact ⟨x', R + y1, rfl, by go_num, k4, by have := HXB.out; have := HX'.out; omega⟩
          case measure => have := HX'.out; simp [intOf]; omega
      · have t1 : decide ((4294967296 : Int) ≤ (x : Int)) = false := decide_eq_false (by omega)
        obtain ⟨p, hp⟩ : ∃ p, p = x * y0 := ⟨_, rfl⟩
        have hpl : p < 18446744073709551616 := by
          rw [hp]
          have : x * y0 ≤ 4294967295 * 4294967295 := Nat.mul_le_mul (by omega) (by omega)
          omega
        have m2 : IntKind.u64.wrap ((x : Int) * (y0 : Int)) = (p : Int) := by
          rw [← Int.natCast_mul, ← hp, IntKind.wrap_u64]; omega
        by_cases hc : 4294967296 * R + u0 < p
        · have t2 : decide (4294967296 * (R : Int) + (u0 : Int) < (p : Int)) = true := decide_eq_true (by omega)
          obtain ⟨k1, k2, k3⟩ := BACK.out (.inr (by rw [← hp]; unfold HH; omega))
          have m1 : 1 ≤ x := k1
          clear hp
          obtain ⟨x', hx'⟩ : ∃ x', x' = x - 1 := ⟨_, rfl⟩
          have m0 : IntKind.u64.wrap ((x : Int) - 1) = (x' : Int) := by
            have := HXB.out
            rw [IntKind.wrap_u64]; omega
          have HX' := hide hx'
          clear hx'
          by_cases hover : 4294967296 ≤ R + y1
          · have t3 : decide ((4294967296 : Int) ≤ (R : Int) + (y1 : Int)) = true := decide_eq_true (by omega)
            have k4 := OVER.out k2 k3 hover
            go_wp2
            go_meet
            exact ⟨by rw [← k4.out, ← HX'.out], rfl⟩
          · have t3 : decide ((4294967296 : Int) ≤ (R : Int) + (y1 : Int)) = false := decide_eq_false (by omega)
            have k4 : Hid (HalfInv HH y1 y0 r1 u0 x' (R + y1)) := ⟨by rw [HX'.out]; exact k2.out, by rw [HX'.out]; exact k3.out, by unfold HH; omega⟩
            go_wp2
            go_round
            case rel => exact ⟨x', R + y1, rfl, by go_num, k4, by have := HXB.out; have := HX'.out; omega⟩
            case measure => have := HX'.out; simp [intOf]; omega
        · have t2 : decide (4294967296 * (R : Int) + (u0 : Int) < (p : Int)) = false := decide_eq_false (by omega)
          have k1 := DONE.out (by rw [← hp]; unfold HH; omega)
          clear hp
          go_wp2
          go_meet
          exact ⟨by rw [k1.out], rfl⟩
  obtain ⟨rfl, hwc⟩ := hcut
  obtain rfl := hwc
  clear INr1 d2
  go_wp2
  rw [RR0.out]
  go_ret2
  have e1 : ((Q1 : Int) * 4294967296 + (Q0 : Int)) = (((hi * BB + lo) / y : Nat) : Int) := by
    rw [← FIN.out.1]; unfold HH; omega
  have e2 : ((r0 : Int) / 2 ^ s) = (((hi * BB + lo) % y : Nat) : Int) := by
    rw [← FIN.out.2, Int.natCast_ediv, Int.natCast_pow]; rfl
  refine ⟨?_, Below.refl _ _⟩
  show Ending.returned (.tuple #[.int .u64 ((Q1 : Int) * 4294967296 + (Q0 : Int)), .int .u64 ((r0 : Int) / 2 ^ s)]) = _
  rw [e1, e2]

/-- math/bits.Div64. -/
theorem div64_any (hi lo y : Nat) (w : World) (hhi : hi < y) (hlo : lo < BB) (hy : y < BB) :
    Calls Tryd.prog 117 #[.int .u64 (hi : Int), .int .u64 (lo : Int), .int .u64 (y : Int)] w fun e w' => e = .returned (.tuple #[.int .u64 (((hi * BB + lo) / y : Nat) : Int), .int .u64 (((hi * BB + lo) % y : Nat) : Int)]) ∧ Below w.heap.size w w' := by
  rcases Nat.eq_zero_or_pos hi with rfl | h0
  · rw [Nat.zero_mul, Nat.zero_add]
    exact div64_low lo y w (by omega) hlo hy
  · exact div64_high hi lo y w h0 hhi hlo hy
end Go.Proofs.YteodljieiloebaaDoor
