/- Package nat's faces Div and Root; sluicewaylaw1: the walks of NatShifts, NatDivides, NatParts. Printed by wip/mk_NaH.py. -/
import Derived.Test.YtdnknokhcliikaaDoorNaF
import Derived.Test.YtdnknokhcliikaaDoorRfK
namespace Go.Proofs.YtdnknokhcliikaaDoor
open Go.RowKit Pl

section
variable (u v : Value) (X Y : Nat) (w : World) (h : R64 w u X) (k : R64 w v Y) (hX : X < BB ^ 64) (hY : Y < BB ^ 64)
include h k hX hY in
set_option maxRecDepth 100000 in
set_option maxHeartbeats 1000000 in
theorem divW (hY0 : 0 < Y) : Calls Tryd.prog 37 #[u, v] w fun e w' => (∃ p q, e = .returned (.tuple #[p, q, .int .i64 0]) ∧ R64 w' p (X / Y) ∧ R64 w' q (X % Y)) ∧ Below w.heap.size w w' := by
  obtain ⟨A, n, c, rfl, hr, hn⟩ := h.limb
  obtain ⟨B, m, d, rfl, kr, km⟩ := k.limb
  have hB := fun w h k => both_any A n c (limbs BB X) B m d (limbs BB Y) w h k
  rw [may_limbs hX, may_limbs hY] at hB
  have hm0 : ((m : Int) == 0) = false := by
    rw [beq_eq_false_iff_ne]
    intro e
    have e2 : m = 0 := by omega
    rw [e2] at km
    have := (limbs_eq_nil BB_gt1).1 (List.length_eq_zero_iff.1 km)
    omega
  have HX : Hid (blen X ≤ 3000000) := Nat.le_trans (blen_64 hX) (by omega)
  clear hn km hX hY
  go_enter Tryd.func37, Tryd.ntmps37
  go_wp2_with (go_at_call 61; refine (hB _ hr kr).mono ?_; rintro e w' ⟨rfl, rfl⟩)
  refine (quoI _ _ X Y _ h k HX.out hY0).mono ?_
  rintro e w1 ⟨⟨u, v, rfl, hu, hv⟩, hb1⟩
  go_wp2
  go_ret3
  exact ⟨⟨_, _, rfl, hu, hv⟩, hb1⟩
include h hX in
set_option maxRecDepth 100000 in
set_option maxHeartbeats 1000000 in
theorem rootW : Calls Tryd.prog 38 #[u] w fun e w' => (∃ z, e = .returned (.tuple #[z, .int .i64 0]) ∧ R64 w' z (nroot X)) ∧ Below w.heap.size w w' := by
  have HX : Hid (blen X ≤ 1000000) := Nat.le_trans (blen_64 hX) (by omega)
  have hm := hide (fun w h => mayV u X w h hX)
  clear hX
  go_enter Tryd.func38, Tryd.ntmps38
  go_wp2_with (go_at_call 35; refine (hm.out _ h).mono ?_; rintro e w' ⟨rfl, rfl⟩)
  refine (squareI _ X _ h HX.out).mono ?_
  rintro e w1 ⟨⟨z, rfl, hz⟩, hb1⟩
  go_wp2
  go_ret2
  exact ⟨⟨_, rfl, hz⟩, hb1⟩
end
set_option maxRecDepth 100000 in
set_option maxHeartbeats 1000000 in
theorem rootBad (A : Option Addr) (n c : Nat) (xs : List Nat) (w : World) (h : RdN .u64 w A n c xs) (hm : mayN xs = false) :
    Calls Tryd.prog 38 #[.slice A n c] w fun e w' => e = .returned (.tuple #[.slice none 0 0, .int .i64 1]) ∧ w = w' := by
  have hB := fun w h => may_any A n c xs w h
  rw [hm] at hB
  go_enter Tryd.func38, Tryd.ntmps38
  go_wp2_with (go_at_call 35; refine (hB _ h).mono ?_; rintro e w' ⟨rfl, rfl⟩)
  go_ret2
  exact ⟨rfl, rfl⟩
theorem nroot_le (X : Nat) : nroot X ≤ X := by
  have h1 := (nroot_spec X).1
  rcases Nat.eq_zero_or_pos (nroot X) with h0 | h0
  · omega
  · exact Nat.le_trans (Nat.le_mul_of_pos_left _ h0) h1
theorem cmpN_lt0 {X Y : Nat} (h : X < Y) : cmpN X Y = -1 := by unfold cmpN; rw [if_pos h]
theorem cmpN_gt0 {X Y : Nat} (h : Y < X) : cmpN X Y = 1 := by unfold cmpN; rw [if_neg (by omega), if_pos h]
theorem cmpN_two {X Y : Nat} (h : X ≤ Y) : cmpN X Y = -1 ∨ cmpN X Y = 0 := by
  unfold cmpN
  split
  · exact .inl rfl
  · rw [if_neg (by omega)]; exact .inr rfl
/-- A conversion to the unsigned word, cut to a bound. -/
theorem u64_nonneg (j : Int) : 0 ≤ IntKind.u64.wrap j := by
  rw [IntKind.wrap_u64]
  omega
theorem cut_mod (j : Int) (m : Nat) (hm : 0 < m) (hm2 : m ≤ 1000000) : ∃ k : Nat, k < m ∧ wrap64 ((IntKind.u64.wrap j).tmod (m : Int)) = (k : Int) := by
  have h0 := u64_nonneg j
  rw [Int.tmod_eq_emod_of_nonneg h0]
  have h1 : 0 ≤ IntKind.u64.wrap j % (m : Int) := Int.emod_nonneg _ (by omega)
  have h2 : IntKind.u64.wrap j % (m : Int) < m := Int.emod_lt_of_pos _ (by omega)
  refine ⟨(IntKind.u64.wrap j % (m : Int)).toNat, by omega, ?_⟩
  rw [IntWalk.wrap64_in _ (by omega)]
  omega
theorem pow2_BB {k j : Nat} (h : k < 64 * j) : 2 ^ k < BB ^ j := by
  rw [pow_BB]
  exact Nat.pow_lt_pow_right (by omega) h

set_option maxRecDepth 100000 in
set_option maxHeartbeats 4000000 in
theorem natDivides_any (A : Option Addr) (n c : Nat) (xs : List Nat) (B : Option Addr) (m d : Nat) (ys : List Nat) (w : World)
    (h : RdN .u64 w A n c xs) (k : RdN .u64 w B m d ys) (hl : Lim BB xs) (kl : Lim BB ys) (hT : TabAt w) :
    Calls Tryd.prog 12 #[.slice A n c, .slice B m d] w fun x w' => x = .returned (.bool true) ∧ Below w.heap.size w w' := by
  have hlen := h.len
  have hcap := h.cap
  have hmax := h.max
  have klen := k.len
  have kcap := k.cap
  have kmax := k.max
  unfold maxLen at hmax kmax
  have HT := hide hT
  clear hT
  rcases Nat.lt_or_ge 16 n with hq0 | ha
  · have hq : (16 : Int) < (n : Int) := by omega
    go_enter Tryd.func12, Tryd.ntmps12
    go_wp2_with fail
    refine (told1_any _ HT.out).mono ?_
    rintro e w1 ⟨rfl, hb1⟩
    go_wp2
    go_ret
    exact ⟨rfl, hb1⟩
  rcases Nat.lt_or_ge 16 m with hq0 | hb
  · have hq : (16 : Int) < (m : Int) := by omega
    go_enter Tryd.func12, Tryd.ntmps12
    go_wp2_with fail
    refine (told1_any _ HT.out).mono ?_
    rintro e w1 ⟨rfl, hb1⟩
    go_wp2
    go_ret
    exact ⟨rfl, hb1⟩
  cases hma : mayN xs
  · skip
    go_enter Tryd.func12, Tryd.ntmps12
    go_wp2_with (go_at_call 35; first | (with_reducible refine (may_any A n c xs _ h).mono ?_; rw [hma]; rintro e w' ⟨rfl, rfl⟩))
    refine (told1_any _ HT.out).mono ?_
    rintro e w1 ⟨rfl, hb1⟩
    go_wp2
    go_ret
    exact ⟨rfl, hb1⟩
  cases hmb : mayN ys
  · skip
    go_enter Tryd.func12, Tryd.ntmps12
    go_wp2_with (go_at_call 35; first | (with_reducible refine (may_any A n c xs _ h).mono ?_; rw [hma]; rintro e w' ⟨rfl, rfl⟩) | (with_reducible refine (may_any B m d ys _ k).mono ?_; rw [hmb]; rintro e w' ⟨rfl, rfl⟩))
    refine (told1_any _ HT.out).mono ?_
    rintro e w1 ⟨rfl, hb1⟩
    go_wp2
    go_ret
    exact ⟨rfl, hb1⟩
  rcases Nat.eq_zero_or_pos m with hm0 | hpos
  · have hm1 : ((m : Int) == 0) = true := by rw [beq_iff_eq]; omega
    clear hm0
    go_enter Tryd.func12, Tryd.ntmps12
    go_wp2_with (go_at_call 35; first | (with_reducible refine (may_any A n c xs _ h).mono ?_; rw [hma]; rintro e w' ⟨rfl, rfl⟩) | (with_reducible refine (may_any B m d ys _ k).mono ?_; rw [hmb]; rintro e w' ⟨rfl, rfl⟩))
    refine (told1_any _ HT.out).mono ?_
    rintro e w1 ⟨rfl, hb1⟩
    go_wp2
    go_ret
    exact ⟨rfl, hb1⟩
  have hm1 : ((m : Int) == 0) = false := by rw [beq_eq_false_iff_ne]; omega
  have hX16 := val_lt_len hl (show xs.length ≤ 16 by omega)
  have hY16 := val_lt_len kl (show ys.length ≤ 16 by omega)
  have ra := R64.of_may h hl hma
  have rb := R64.of_may k kl hmb
  have hY0 : Hid (0 < val BB ys) := Nat.pos_of_ne_zero (val_pos_may hmb (by omega))
  obtain ⟨X, eX⟩ : ∃ X, X = val BB xs := ⟨_, rfl⟩
  obtain ⟨Y, eY⟩ : ∃ Y, Y = val BB ys := ⟨_, rfl⟩
  rw [← eX] at hX16 ra
  rw [← eY] at hY16 rb hY0
  clear eX eY
  have hXl := hide (pow_mono64 hX16 (by omega))
  have hYl := hide (pow_mono64 hY16 (by omega))
  have hQ16 : X / Y < BB ^ 16 := Nat.lt_of_le_of_lt (Nat.div_le_self _ _) hX16
  have hR16 : X % Y < BB ^ 16 := Nat.lt_of_lt_of_le (Nat.mod_lt _ hY0.out) (Nat.le_of_lt hY16)
  have hN16 : nroot X < BB ^ 16 := Nat.lt_of_le_of_lt (nroot_le X) hX16
  have h116 : 1 < BB ^ 16 := Nat.one_lt_pow (by omega) BB_gt1
  have hQl := hide (pow_mono64 hQ16 (by omega))
  have hRl := hide (pow_mono64 hR16 (by omega))
  have hNl := hide (pow_mono64 hN16 (by omega))
  have h1l := hide (pow_mono64 h116 (by omega))
  have hMl := hide (pow_mono64 (mul_pow hQ16 hY16) (by omega))
  have eS : Hid (X / Y * Y + X % Y = X) := by unfold Hid; rw [Nat.mul_comm]; exact Nat.div_add_mod X Y
  have hSl : Hid (X / Y * Y + X % Y < BB ^ 64) := by unfold Hid; rw [eS.out]; exact hXl.out
  have hNNl := hide (pow_mono64 (mul_pow hN16 hN16) (by omega))
  have hZ17 := add_pow hN16 h116
  have hZl := hide (pow_mono64 hZ17 (by omega))
  have hWl := hide (pow_mono64 (mul_pow hZ17 hZ17) (by omega))
  have c1 := hide (cmpN_lt0 (Nat.mod_lt X hY0.out))
  have c2 := hide (cmpN_two (nroot_spec X).1)
  have c3 := hide (cmpN_gt0 (nroot_spec X).2)
  clear hX16 hY16 hQ16 hR16 hN16 h116 hZ17
  have hbz : Below w.heap.size w w := Below.refl _ _
  go_enter Tryd.func12, Tryd.ntmps12
  go_wp2_with (go_at_call 35; first | (with_reducible refine (may_any A n c xs _ h).mono ?_; rw [hma]; rintro e w' ⟨rfl, rfl⟩) | (with_reducible refine (may_any B m d ys _ k).mono ?_; rw [hmb]; rintro e w' ⟨rfl, rfl⟩))
  refine (divW _ _ X Y _ ra rb hXl.out hYl.out hY0.out).mono ?_
  rintro e w1 ⟨⟨uq, ur, rfl, rq, rr⟩, hb1⟩
  have ra_1 := ra.below hb1
  have rb_1 := rb.below hb1
  have HT_1 := hide (HT.out.below hb1)
  have hbs1 := below_then hbz hb1
  clear ra rb HT hbz hb1
  go_wp2_with fail
  refine (mulW _ _ (X / Y) Y _ rq rb_1 hQl.out hYl.out hMl.out).mono ?_
  rintro e w2 ⟨⟨um, rfl, rm⟩, hb2⟩
  have ra_2 := ra_1.below hb2
  have rb_2 := rb_1.below hb2
  have HT_2 := hide (HT_1.out.below hb2)
  have rq_2 := rq.below hb2
  have rr_2 := rr.below hb2
  have hbs2 := below_then hbs1 hb2
  clear ra_1 rb_1 HT_1 rq rr hbs1 hb2
  clear rq_2
  go_wp2_with fail
  refine (addW _ _ (X / Y * Y) (X % Y) _ rm rr_2 hMl.out hRl.out hSl.out).mono ?_
  rintro e w3 ⟨⟨us, rfl, rs⟩, hb3⟩
  have ra_3 := ra_2.below hb3
  have rb_3 := rb_2.below hb3
  have HT_3 := hide (HT_2.out.below hb3)
  have rr_3 := rr_2.below hb3
  have rm_3 := rm.below hb3
  have hbs3 := below_then hbs2 hb3
  clear ra_2 rb_2 HT_2 rr_2 rm hbs2 hb3
  clear rm_3
  go_wp2_with fail
  refine (rootW _ X _ ra_3 hXl.out).mono ?_
  rintro e w4 ⟨⟨ux, rfl, rx⟩, hb4⟩
  have ra_4 := ra_3.below hb4
  have rb_4 := rb_3.below hb4
  have HT_4 := hide (HT_3.out.below hb4)
  have rr_4 := rr_3.below hb4
  have rs_4 := rs.below hb4
  have hbs4 := below_then hbs3 hb4
  clear ra_3 rb_3 HT_3 rr_3 rs hbs3 hb4
  go_wp2_with fail
  refine (mulW _ _ (nroot X) (nroot X) _ rx rx hNl.out hNl.out hNNl.out).mono ?_
  rintro e w5 ⟨⟨uy, rfl, ry⟩, hb5⟩
  have ra_5 := ra_4.below hb5
  have rb_5 := rb_4.below hb5
  have HT_5 := hide (HT_4.out.below hb5)
  have rr_5 := rr_4.below hb5
  have rs_5 := rs_4.below hb5
  have rx_5 := rx.below hb5
  have hbs5 := below_then hbs4 hb5
  clear ra_4 rb_4 HT_4 rr_4 rs_4 rx hbs4 hb5
  obtain ⟨hA, hb6⟩ := box_1 w5 [.int .u64 1] 37
  go_wp2_with fail
  generalize (w5.alloc (.cells #[.int .u64 1] 37)) = w6 at *
  have ra_6 := ra_5.below hb6
  have rb_6 := rb_5.below hb6
  have HT_6 := hide (HT_5.out.below hb6)
  have rr_6 := rr_5.below hb6
  have rs_6 := rs_5.below hb6
  have rx_6 := rx_5.below hb6
  have ry_6 := ry.below hb6
  have hbs6 := below_then hbs5 hb6
  clear ra_5 rb_5 HT_5 rr_5 rs_5 rx_5 ry hbs5 hb6
  refine (addW _ _ (nroot X) 1 _ rx_6 (R64b 1 hA (by omega) BB_gt1) hNl.out h1l.out hZl.out).mono ?_
  rintro e w7 ⟨⟨uz, rfl, rz⟩, hb7⟩
  have ra_7 := ra_6.below hb7
  have rb_7 := rb_6.below hb7
  have HT_7 := hide (HT_6.out.below hb7)
  have rr_7 := rr_6.below hb7
  have rs_7 := rs_6.below hb7
  have rx_7 := rx_6.below hb7
  have ry_7 := ry_6.below hb7
  have hA_7 := hA.keep hb7
  have hbs7 := below_then hbs6 hb7
  clear ra_6 rb_6 HT_6 rr_6 rs_6 rx_6 ry_6 hA hbs6 hb7
  clear hA_7
  clear rx_7
  go_wp2_with fail
  refine (mulW _ _ (nroot X + 1) (nroot X + 1) _ rz rz hZl.out hZl.out hWl.out).mono ?_
  rintro e w8 ⟨⟨uw, rfl, rww⟩, hb8⟩
  have ra_8 := ra_7.below hb8
  have rb_8 := rb_7.below hb8
  have HT_8 := hide (HT_7.out.below hb8)
  have rr_8 := rr_7.below hb8
  have rs_8 := rs_7.below hb8
  have ry_8 := ry_7.below hb8
  have rz_8 := rz.below hb8
  have hbs8 := below_then hbs7 hb8
  clear ra_7 rb_7 HT_7 rr_7 rs_7 ry_7 rz hbs7 hb8
  clear rz_8
  go_wp2_with fail
  refine (told1_any _ HT_8.out).mono ?_
  rintro e w9 ⟨rfl, hb9⟩
  have ra_9 := ra_8.below hb9
  have rb_9 := rb_8.below hb9
  have HT_9 := hide (HT_8.out.below hb9)
  have rr_9 := rr_8.below hb9
  have rs_9 := rs_8.below hb9
  have ry_9 := ry_8.below hb9
  have rww_9 := rww.below hb9
  have hbs9 := below_then hbs8 hb9
  clear ra_8 rb_8 HT_8 rr_8 rs_8 ry_8 rww hbs8 hb9
  clear HT_9
  rw [eS.out] at rs_9
  go_wp2_with fail
  refine (same_R _ _ X _ rs_9 ra_9).mono ?_
  rintro e w10 ⟨rfl, hb10⟩
  have ra_10 := ra_9.below hb10
  have rb_10 := rb_9.below hb10
  have rr_10 := rr_9.below hb10
  have rs_10 := rs_9.below hb10
  have ry_10 := ry_9.below hb10
  have rww_10 := rww_9.below hb10
  have hbs10 := below_then hbs9 hb10
  clear ra_9 rb_9 rr_9 rs_9 ry_9 rww_9 hbs9 hb10
  clear rs_10
  go_wp2_with fail
  refine (cmpV _ _ (X % Y) Y _ rr_10 rb_10 hRl.out hYl.out).mono ?_
  rintro e w11 ⟨rfl, hb11⟩
  have ra_11 := ra_10.below hb11
  have rb_11 := rb_10.below hb11
  have rr_11 := rr_10.below hb11
  have ry_11 := ry_10.below hb11
  have rww_11 := rww_10.below hb11
  have hbs11 := below_then hbs10 hb11
  clear ra_10 rb_10 rr_10 ry_10 rww_10 hbs10 hb11
  clear rr_11
  clear rb_11
  rw [c1.out]
  go_wp2_with fail
  refine (cmpV _ _ (nroot X * nroot X) X _ ry_11 ra_11 hNNl.out hXl.out).mono ?_
  rintro e w12 ⟨rfl, hb12⟩
  have ra_12 := ra_11.below hb12
  have ry_12 := ry_11.below hb12
  have rww_12 := rww_11.below hb12
  have hbs12 := below_then hbs11 hb12
  clear ra_11 ry_11 rww_11 hbs11 hb12
  rcases c2.out with hc0 | hc0 <;> rw [hc0]
  · go_wp2_with fail
    refine (cmpV _ _ ((nroot X + 1) * (nroot X + 1)) X _ rww_12 ra_12 hWl.out hXl.out).mono ?_
    rintro e w13 ⟨rfl, hb13⟩
    have ra_13 := ra_12.below hb13
    have ry_13 := ry_12.below hb13
    have rww_13 := rww_12.below hb13
    have hbs13 := below_then hbs12 hb13
    clear ra_12 ry_12 rww_12 hbs12 hb13
    rw [c3.out]
    go_wp2_with fail
    go_ret
    exact ⟨rfl, hbs13⟩
  · go_wp2_with fail
    refine (cmpV _ _ ((nroot X + 1) * (nroot X + 1)) X _ rww_12 ra_12 hWl.out hXl.out).mono ?_
    rintro e w13 ⟨rfl, hb13⟩
    have ra_13 := ra_12.below hb13
    have ry_13 := ry_12.below hb13
    have rww_13 := rww_12.below hb13
    have hbs13 := below_then hbs12 hb13
    clear ra_12 ry_12 rww_12 hbs12 hb13
    rw [c3.out]
    go_wp2_with fail
    go_ret
    exact ⟨rfl, hbs13⟩

set_option maxRecDepth 100000 in
set_option maxHeartbeats 4000000 in
theorem natShifts_any (A : Option Addr) (n c : Nat) (xs : List Nat) (i j : Int) (w : World)
    (h : RdN .u64 w A n c xs) (hl : Lim BB xs) (hT : TabAt w) :
    Calls Tryd.prog 8 #[.slice A n c, .int .i64 i, .int .i64 j] w fun x w' => x = .returned (.bool true) ∧ Below w.heap.size w w' := by
  have hlen := h.len
  have hcap := h.cap
  have hmax := h.max
  unfold maxLen at hmax
  have HT := hide hT
  clear hT
  rcases Nat.lt_or_ge 20 n with hq0 | ha
  · have hq : (20 : Int) < (n : Int) := by omega
    go_enter Tryd.func8, Tryd.ntmps8
    go_wp2_with fail
    refine (told1_any _ HT.out).mono ?_
    rintro e w1 ⟨rfl, hb1⟩
    go_wp2
    go_ret
    exact ⟨rfl, hb1⟩
  cases hma : mayN xs
  · skip
    go_enter Tryd.func8, Tryd.ntmps8
    go_wp2_with (go_at_call 35; first | (with_reducible refine (may_any A n c xs _ h).mono ?_; rw [hma]; rintro e w' ⟨rfl, rfl⟩))
    refine (told1_any _ HT.out).mono ?_
    rintro e w1 ⟨rfl, hb1⟩
    go_wp2
    go_ret
    exact ⟨rfl, hb1⟩
  have hX20 := val_lt_len hl (show xs.length ≤ 20 by omega)
  have ra := R64.of_may h hl hma
  have hz : n = 0 ↔ val BB xs = 0 := by
    constructor
    · intro e; rw [List.length_eq_zero_iff.1 (show xs.length = 0 by omega)]; rfl
    · intro e; exact Classical.byContradiction fun h0 => val_pos_may hma (by omega) e
  obtain ⟨X, eX⟩ : ∃ X, X = val BB xs := ⟨_, rfl⟩
  rw [← eX] at hX20 ra hz
  clear eX
  obtain ⟨p, hp1, hp2⟩ := cut_mod i 900 (by omega) (by omega)
  obtain ⟨q, hq1, hq2⟩ := cut_mod j 900 (by omega) (by omega)
  have HP : Hid (wrap64 ((IntKind.u64.wrap i).tmod 900) = (p : Int)) := hp2
  have HQ : Hid (wrap64 ((IntKind.u64.wrap j).tmod 900) = (q : Int)) := hq2
  clear hp2 hq2
  have EPQ : Hid ((p : Int) + (q : Int) = ((p + q : Nat) : Int)) := (Int.natCast_add p q).symm
  have hXl := hide (pow_mono64 hX20 (by omega))
  have hPl : 2 ^ p < BB ^ 30 := pow2_BB (by omega)
  have hPQl : 2 ^ (p + q) < BB ^ 30 := pow2_BB (by omega)
  have hSl := hide (pow_mono64 (mul_pow hX20 hPl) (by omega))
  have hVl := hide (pow_mono64 (mul_pow hX20 hPQl) (by omega))
  have eU : Hid (X * 2 ^ p * 2 ^ q = X * 2 ^ (p + q)) := by unfold Hid; rw [Nat.mul_assoc, ← Nat.pow_add]
  have hUl : Hid (X * 2 ^ p * 2 ^ q < BB ^ 64) := by unfold Hid; rw [eU.out]; exact hVl.out
  have eT : Hid (X * 2 ^ p / 2 ^ p = X) := Nat.mul_div_cancel _ (Nat.two_pow_pos p)
  have h1l : Hid (1 < BB ^ 64) := Nat.one_lt_pow (by omega) BB_gt1
  have hOl : Hid (1 * 2 ^ p < BB ^ 64) := by unfold Hid; rw [Nat.one_mul]; exact pow_mono64 hPl (by omega)
  have hO2 : Hid (2 ^ p < BB ^ 64) := pow_mono64 hPl (by omega)
  clear hX20 hPl hPQl
  have hbz : Below w.heap.size w w := Below.refl _ _
  go_enter Tryd.func8, Tryd.ntmps8
  go_wp2_with (go_at_call 35; first | (with_reducible refine (may_any A n c xs _ h).mono ?_; rw [hma]; rintro e w' ⟨rfl, rfl⟩))
  rw [HP.out, HQ.out]
  refine (shlW _ X _ ra hXl.out p (by omega) hSl.out).mono ?_
  rintro e w1 ⟨⟨us, rfl, rs⟩, hb1⟩
  have ra_1 := ra.below hb1
  have HT_1 := hide (HT.out.below hb1)
  have hbs1 := below_then hbz hb1
  clear ra HT hbz hb1
  go_wp2_with fail
  refine (shrW _ (X * 2 ^ p) _ rs hSl.out p (by omega)).mono ?_
  rintro e w2 ⟨⟨ut, rfl, rt⟩, hb2⟩
  have ra_2 := ra_1.below hb2
  have HT_2 := hide (HT_1.out.below hb2)
  have rs_2 := rs.below hb2
  have hbs2 := below_then hbs1 hb2
  clear ra_1 HT_1 rs hbs1 hb2
  go_wp2_with fail
  refine (shlW _ (X * 2 ^ p) _ rs_2 hSl.out q (by omega) hUl.out).mono ?_
  rintro e w3 ⟨⟨uu, rfl, ru⟩, hb3⟩
  have ra_3 := ra_2.below hb3
  have HT_3 := hide (HT_2.out.below hb3)
  have rs_3 := rs_2.below hb3
  have rt_3 := rt.below hb3
  have hbs3 := below_then hbs2 hb3
  clear ra_2 HT_2 rs_2 rt hbs2 hb3
  go_wp2_with fail
  rw [EPQ.out]
  refine (shlW _ X _ ra_3 hXl.out (p + q) (by omega) hVl.out).mono ?_
  rintro e w4 ⟨⟨uv, rfl, rv⟩, hb4⟩
  have ra_4 := ra_3.below hb4
  have HT_4 := hide (HT_3.out.below hb4)
  have rs_4 := rs_3.below hb4
  have rt_4 := rt_3.below hb4
  have ru_4 := ru.below hb4
  have hbs4 := below_then hbs3 hb4
  clear ra_3 HT_3 rs_3 rt_3 ru hbs3 hb4
  obtain ⟨hA, hb5⟩ := box_1 w4 [.int .u64 1] 37
  go_wp2_with fail
  generalize (w4.alloc (.cells #[.int .u64 1] 37)) = w5 at *
  have ra_5 := ra_4.below hb5
  have HT_5 := hide (HT_4.out.below hb5)
  have rs_5 := rs_4.below hb5
  have rt_5 := rt_4.below hb5
  have ru_5 := ru_4.below hb5
  have rv_5 := rv.below hb5
  have hbs5 := below_then hbs4 hb5
  clear ra_4 HT_4 rs_4 rt_4 ru_4 rv hbs4 hb5
  refine (shlW _ 1 _ (R64b 1 hA (by omega) BB_gt1) h1l.out p (by omega) hOl.out).mono ?_
  rintro e w6 ⟨⟨uo, rfl, ro⟩, hb6⟩
  have ra_6 := ra_5.below hb6
  have HT_6 := hide (HT_5.out.below hb6)
  have rs_6 := rs_5.below hb6
  have rt_6 := rt_5.below hb6
  have ru_6 := ru_5.below hb6
  have rv_6 := rv_5.below hb6
  have hA_6 := hA.keep hb6
  have hbs6 := below_then hbs5 hb6
  clear ra_5 HT_5 rs_5 rt_5 ru_5 rv_5 hA hbs5 hb6
  clear hA_6
  rw [Nat.one_mul] at ro
  go_wp2_with fail
  refine (mulW _ _ X (2 ^ p) _ ra_6 ro hXl.out hO2.out hSl.out).mono ?_
  rintro e w7 ⟨⟨uw, rfl, rm⟩, hb7⟩
  have ra_7 := ra_6.below hb7
  have HT_7 := hide (HT_6.out.below hb7)
  have rs_7 := rs_6.below hb7
  have rt_7 := rt_6.below hb7
  have ru_7 := ru_6.below hb7
  have rv_7 := rv_6.below hb7
  have ro_7 := ro.below hb7
  have hbs7 := below_then hbs6 hb7
  clear ra_6 HT_6 rs_6 rt_6 ru_6 rv_6 ro hbs6 hb7
  go_wp2_with fail
  refine (shrW _ X _ ra_7 hXl.out p (by omega)).mono ?_
  rintro e w8 ⟨⟨ux, rfl, rx⟩, hb8⟩
  have ra_8 := ra_7.below hb8
  have HT_8 := hide (HT_7.out.below hb8)
  have rs_8 := rs_7.below hb8
  have rt_8 := rt_7.below hb8
  have ru_8 := ru_7.below hb8
  have rv_8 := rv_7.below hb8
  have ro_8 := ro_7.below hb8
  have rm_8 := rm.below hb8
  have hbs8 := below_then hbs7 hb8
  clear ra_7 HT_7 rs_7 rt_7 ru_7 rv_7 ro_7 rm hbs7 hb8
  go_wp2_with fail
  refine (divW _ _ X (2 ^ p) _ ra_8 ro_8 hXl.out hO2.out (Nat.two_pow_pos p)).mono ?_
  rintro e w9 ⟨⟨uy, uz, rfl, ry, rz⟩, hb9⟩
  have ra_9 := ra_8.below hb9
  have HT_9 := hide (HT_8.out.below hb9)
  have rs_9 := rs_8.below hb9
  have rt_9 := rt_8.below hb9
  have ru_9 := ru_8.below hb9
  have rv_9 := rv_8.below hb9
  have ro_9 := ro_8.below hb9
  have rm_9 := rm_8.below hb9
  have rx_9 := rx.below hb9
  have hbs9 := below_then hbs8 hb9
  clear ra_8 HT_8 rs_8 rt_8 ru_8 rv_8 ro_8 rm_8 rx hbs8 hb9
  clear rz
  clear ro_9
  rw [eT.out] at rt_9
  rw [eU.out] at ru_9
  go_wp2_with fail
  refine (same_R _ _ X _ rt_9 ra_9).mono ?_
  rintro e w10 ⟨rfl, hb10⟩
  have ra_10 := ra_9.below hb10
  have HT_10 := hide (HT_9.out.below hb10)
  have rs_10 := rs_9.below hb10
  have rt_10 := rt_9.below hb10
  have ru_10 := ru_9.below hb10
  have rv_10 := rv_9.below hb10
  have rm_10 := rm_9.below hb10
  have rx_10 := rx_9.below hb10
  have ry_10 := ry.below hb10
  have hbs10 := below_then hbs9 hb10
  clear ra_9 HT_9 rs_9 rt_9 ru_9 rv_9 rm_9 rx_9 ry hbs9 hb10
  clear rt_10
  go_wp2_with fail
  refine (same_R _ _ (X * 2 ^ (p + q)) _ ru_10 rv_10).mono ?_
  rintro e w11 ⟨rfl, hb11⟩
  have ra_11 := ra_10.below hb11
  have HT_11 := hide (HT_10.out.below hb11)
  have rs_11 := rs_10.below hb11
  have ru_11 := ru_10.below hb11
  have rv_11 := rv_10.below hb11
  have rm_11 := rm_10.below hb11
  have rx_11 := rx_10.below hb11
  have ry_11 := ry_10.below hb11
  have hbs11 := below_then hbs10 hb11
  clear ra_10 HT_10 rs_10 ru_10 rv_10 rm_10 rx_10 ry_10 hbs10 hb11
  clear ru_11
  clear rv_11
  go_wp2_with fail
  refine (same_R _ _ (X * 2 ^ p) _ rm_11 rs_11).mono ?_
  rintro e w12 ⟨rfl, hb12⟩
  have ra_12 := ra_11.below hb12
  have HT_12 := hide (HT_11.out.below hb12)
  have rs_12 := rs_11.below hb12
  have rm_12 := rm_11.below hb12
  have rx_12 := rx_11.below hb12
  have ry_12 := ry_11.below hb12
  have hbs12 := below_then hbs11 hb12
  clear ra_11 HT_11 rs_11 rm_11 rx_11 ry_11 hbs11 hb12
  clear rm_12
  go_wp2_with fail
  refine (same_R _ _ (X / 2 ^ p) _ rx_12 ry_12).mono ?_
  rintro e w13 ⟨rfl, hb13⟩
  have ra_13 := ra_12.below hb13
  have HT_13 := hide (HT_12.out.below hb13)
  have rs_13 := rs_12.below hb13
  have rx_13 := rx_12.below hb13
  have ry_13 := ry_12.below hb13
  have hbs13 := below_then hbs12 hb13
  clear ra_12 HT_12 rs_12 rx_12 ry_12 hbs12 hb13
  clear rx_13
  clear ry_13
  rcases Nat.eq_zero_or_pos n with hn0 | hn0
  · have hn1 : ((n : Int) == 0) = true := by rw [beq_iff_eq]; omega
    have hX0 := hz.1 hn0
    subst hX0
    rw [Nat.zero_mul] at rs_13
    obtain ⟨As, ns, cs, rfl, hrs⟩ := rs_13
    obtain rfl : ns = 0 := by rw [← hrs.len]; rfl
    clear hn0 hz
    go_wp2_with fail
    refine (told1_any _ HT_13.out).mono ?_
    rintro e w14 ⟨rfl, hb14⟩
    have ra_14 := ra_13.below hb14
    have HT_14 := hide (HT_13.out.below hb14)
    have hrs_14 := hrs.below hb14
    have hbs14 := below_then hbs13 hb14
    clear ra_13 HT_13 hrs hbs13 hb14
    go_wp2_with fail
    refine (lowF_any As 0 cs [] _ hrs_14 Lim.nil HT_14.out).mono ?_
    rw [if_pos (by rfl), show zerosN [] = -1 by rfl]
    rintro e w' ⟨rfl, rfl⟩
    go_wp2_with fail
    go_ret
    exact ⟨rfl, hbs14⟩
  · have hn1 : ((n : Int) == 0) = false := by rw [beq_eq_false_iff_ne]; omega
    have hX0 : X ≠ 0 := fun e => by have := hz.2 e; omega
    have hbl := blen_64 hXl.out
    have eL : Hid (blen (X * 2 ^ p) = blen X + p) := blen_mul_pow hX0 p
    have eZ : Hid (tz (X * 2 ^ p) = tz X + p) := tz_mul_pow hX0 p
    have htz : tz X ≤ 4096 := Nat.le_trans (Nat.le_of_lt (tz_lt_blen hX0)) hbl
    have hSX0 : Hid (X * 2 ^ p ≠ 0) := by unfold Hid; have := Nat.mul_pos (Nat.pos_of_ne_zero hX0) (Nat.two_pow_pos p); omega
    have hEL : (((blen X + p : Nat) : Int) == (blen X : Int) + (p : Int)) = true := by rw [beq_iff_eq, Int.natCast_add]
    have hEZ : (((tz X + p : Nat) : Int) == (tz X : Int) + (p : Int)) = true := by rw [beq_iff_eq, Int.natCast_add]
    have HX0 := hide hX0
    clear hz hX0 hn0
    go_wp2_with fail
    refine (told1_any _ HT_13.out).mono ?_
    rintro e w14 ⟨rfl, hb14⟩
    have ra_14 := ra_13.below hb14
    have HT_14 := hide (HT_13.out.below hb14)
    have rs_14 := rs_13.below hb14
    have hbs14 := below_then hbs13 hb14
    clear ra_13 HT_13 rs_13 hbs13 hb14
    go_wp2_with fail
    refine (lenV _ (X * 2 ^ p) _ rs_14 hSl.out).mono ?_
    rw [eL.out]
    rintro e w' ⟨rfl, rfl⟩
    go_wp2_with fail
    refine (lenV _ X _ ra_14 hXl.out).mono ?_
    rintro e w' ⟨rfl, rfl⟩
    go_wp2_with fail
    refine (lowV _ (X * 2 ^ p) _ rs_14 hSl.out HT_14.out hSX0.out).mono ?_
    rw [eZ.out]
    rintro e w' ⟨rfl, rfl⟩
    go_wp2_with fail
    refine (lowV _ X _ ra_14 hXl.out HT_14.out HX0.out).mono ?_
    rintro e w' ⟨rfl, rfl⟩
    go_wp2_with fail
    go_ret
    exact ⟨rfl, hbs14⟩

end Go.Proofs.YtdnknokhcliikaaDoor
