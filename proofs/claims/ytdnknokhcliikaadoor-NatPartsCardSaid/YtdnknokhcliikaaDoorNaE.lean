/- sluicewaylaw1: the walk of NatRing. Printed by wip/mk_NaE.py. -/
import Derived.Test.YtdnknokhcliikaaDoorNaD
namespace Go.Proofs.YtdnknokhcliikaaDoor
open Go.RowKit Pl

theorem pow_mono64 {X k : Nat} (h : X < BB ^ k) (hk : k ≤ 64) : X < BB ^ 64 := Nat.lt_of_lt_of_le h (Nat.pow_le_pow_right BB_pos hk)
theorem val_lt_len {xs : List Nat} {k : Nat} (hl : Lim BB xs) (h : xs.length ≤ k) : val BB xs < BB ^ k := Nat.lt_of_lt_of_le (val_lt hl) (Nat.pow_le_pow_right BB_pos h)
theorem add_pow {X Y k : Nat} (hX : X < BB ^ k) (hY : Y < BB ^ k) : X + Y < BB ^ (k + 1) := by
  have : 2 * BB ^ k ≤ BB ^ (k + 1) := by rw [Nat.pow_succ, Nat.mul_comm]; exact Nat.mul_le_mul_left _ BB_gt1
  omega
theorem mul_pow {X Y j k : Nat} (hX : X < BB ^ j) (hY : Y < BB ^ k) : X * Y < BB ^ (j + k) := by
  rw [Nat.pow_add]
  exact Nat.mul_lt_mul'' hX hY

set_option maxRecDepth 100000 in
set_option maxHeartbeats 4000000 in
theorem natRing_any (A : Option Addr) (n c : Nat) (xs : List Nat) (B : Option Addr) (m d : Nat) (ys : List Nat) (C : Option Addr) (l f : Nat) (zs : List Nat) (w : World)
    (h : RdN .u64 w A n c xs) (k : RdN .u64 w B m d ys) (o : RdN .u64 w C l f zs) (hl : Lim BB xs) (kl : Lim BB ys) (ol : Lim BB zs) (hT : TabAt w) :
    Calls Tryd.prog 11 #[.slice A n c, .slice B m d, .slice C l f] w fun x w' => x = .returned (.bool true) ∧ Below w.heap.size w w' := by
  have hlen := h.len
  have hcap := h.cap
  have hmax := h.max
  have klen := k.len
  have kcap := k.cap
  have kmax := k.max
  have olen := o.len
  have ocap := o.cap
  have omax := o.max
  unfold maxLen at hmax kmax omax
  have HT := hide hT
  clear hT
  rcases Nat.lt_or_ge 20 n with hq0 | ha
  · have hq : (20 : Int) < (n : Int) := by omega
    go_enter Tryd.func11, Tryd.ntmps11
    go_wp2_with fail
    refine (told1_any _ HT.out).mono ?_
    rintro e w1 ⟨rfl, hb1⟩
    go_wp2
    go_ret
    exact ⟨rfl, hb1⟩
  rcases Nat.lt_or_ge 20 m with hq0 | hb
  · have hq : (20 : Int) < (m : Int) := by omega
    go_enter Tryd.func11, Tryd.ntmps11
    go_wp2_with fail
    refine (told1_any _ HT.out).mono ?_
    rintro e w1 ⟨rfl, hb1⟩
    go_wp2
    go_ret
    exact ⟨rfl, hb1⟩
  rcases Nat.lt_or_ge 20 l with hq0 | hc
  · have hq : (20 : Int) < (l : Int) := by omega
    go_enter Tryd.func11, Tryd.ntmps11
    go_wp2_with fail
    refine (told1_any _ HT.out).mono ?_
    rintro e w1 ⟨rfl, hb1⟩
    go_wp2
    go_ret
    exact ⟨rfl, hb1⟩
  cases hma : mayN xs
  · skip
    go_enter Tryd.func11, Tryd.ntmps11
    go_wp2_with (go_at_call 35; first | (with_reducible refine (may_any A n c xs _ h).mono ?_; rw [hma]; rintro e w' ⟨rfl, rfl⟩))
    refine (told1_any _ HT.out).mono ?_
    rintro e w1 ⟨rfl, hb1⟩
    go_wp2
    go_ret
    exact ⟨rfl, hb1⟩
  cases hmb : mayN ys
  · skip
    go_enter Tryd.func11, Tryd.ntmps11
    go_wp2_with (go_at_call 35; first | (with_reducible refine (may_any A n c xs _ h).mono ?_; rw [hma]; rintro e w' ⟨rfl, rfl⟩) | (with_reducible refine (may_any B m d ys _ k).mono ?_; rw [hmb]; rintro e w' ⟨rfl, rfl⟩))
    refine (told1_any _ HT.out).mono ?_
    rintro e w1 ⟨rfl, hb1⟩
    go_wp2
    go_ret
    exact ⟨rfl, hb1⟩
  cases hmc : mayN zs
  · skip
    go_enter Tryd.func11, Tryd.ntmps11
    go_wp2_with (go_at_call 35; first | (with_reducible refine (may_any A n c xs _ h).mono ?_; rw [hma]; rintro e w' ⟨rfl, rfl⟩) | (with_reducible refine (may_any B m d ys _ k).mono ?_; rw [hmb]; rintro e w' ⟨rfl, rfl⟩) | (with_reducible refine (may_any C l f zs _ o).mono ?_; rw [hmc]; rintro e w' ⟨rfl, rfl⟩))
    refine (told1_any _ HT.out).mono ?_
    rintro e w1 ⟨rfl, hb1⟩
    go_wp2
    go_ret
    exact ⟨rfl, hb1⟩
  have hX20 := val_lt_len hl (show xs.length ≤ 20 by omega)
  have hY20 := val_lt_len kl (show ys.length ≤ 20 by omega)
  have hZ20 := val_lt_len ol (show zs.length ≤ 20 by omega)
  have ra := R64.of_may h hl hma
  have rb := R64.of_may k kl hmb
  have rc := R64.of_may o ol hmc
  obtain ⟨X, eX⟩ : ∃ X, X = val BB xs := ⟨_, rfl⟩
  obtain ⟨Y, eY⟩ : ∃ Y, Y = val BB ys := ⟨_, rfl⟩
  obtain ⟨Z, eZ⟩ : ∃ Z, Z = val BB zs := ⟨_, rfl⟩
  rw [← eX] at hX20 ra
  rw [← eY] at hY20 rb
  rw [← eZ] at hZ20 rc
  clear eX eY eZ
  have hS21 := add_pow hX20 hY20
  have hXl := hide (pow_mono64 hX20 (by omega))
  have hYl := hide (pow_mono64 hY20 (by omega))
  have hZl := hide (pow_mono64 hZ20 (by omega))
  have hSl := hide (pow_mono64 hS21 (by omega))
  have hPl := hide (pow_mono64 (mul_pow hS21 hZ20) (by omega))
  have hQl := hide (pow_mono64 (mul_pow hX20 hZ20) (by omega))
  have hRl := hide (pow_mono64 (mul_pow hZ20 hY20) (by omega))
  have hUl := hide (pow_mono64 (add_pow (mul_pow hX20 hZ20) (mul_pow hZ20 hY20)) (by omega))
  have eTS : Hid (Y + X = X + Y) := Nat.add_comm _ _
  have eU : Hid (X * Z + Z * Y = (X + Y) * Z) := by unfold Hid; rw [Nat.add_mul, Nat.mul_comm Z Y]
  have eD : Hid (X + Y - X = Y) := by unfold Hid; omega
  have hTl : Hid (Y + X < BB ^ 64) := by unfold Hid; rw [eTS.out]; exact hSl.out
  have hcm : Hid (cmpN (X + Y) X = 0 ∨ cmpN (X + Y) X = 1) := by unfold Hid cmpN; rw [if_neg (by omega)]; split; exact .inr rfl; exact .inl rfl
  clear hX20 hY20 hZ20 hS21
  have hbz : Below w.heap.size w w := Below.refl _ _
  go_enter Tryd.func11, Tryd.ntmps11
  go_wp2_with (go_at_call 35; first | (with_reducible refine (may_any A n c xs _ h).mono ?_; rw [hma]; rintro e w' ⟨rfl, rfl⟩) | (with_reducible refine (may_any B m d ys _ k).mono ?_; rw [hmb]; rintro e w' ⟨rfl, rfl⟩) | (with_reducible refine (may_any C l f zs _ o).mono ?_; rw [hmc]; rintro e w' ⟨rfl, rfl⟩))
  refine (addW _ _ X Y _ ra rb hXl.out hYl.out hSl.out).mono ?_
  rintro e w1 ⟨⟨us, rfl, rs⟩, hb1⟩
  have ra_1 := ra.below hb1
  have rb_1 := rb.below hb1
  have rc_1 := rc.below hb1
  have HT_1 := hide (HT.out.below hb1)
  have hbs1 := below_then hbz hb1
  clear ra rb rc HT hbz hb1
  go_wp2_with fail
  refine (addW _ _ Y X _ rb_1 ra_1 hYl.out hXl.out hTl.out).mono ?_
  rintro e w2 ⟨⟨ut, rfl, rt⟩, hb2⟩
  have ra_2 := ra_1.below hb2
  have rb_2 := rb_1.below hb2
  have rc_2 := rc_1.below hb2
  have HT_2 := hide (HT_1.out.below hb2)
  have rs_2 := rs.below hb2
  have hbs2 := below_then hbs1 hb2
  clear ra_1 rb_1 rc_1 HT_1 rs hbs1 hb2
  go_wp2_with fail
  refine (mulW _ _ (X + Y) Z _ rs_2 rc_2 hSl.out hZl.out hPl.out).mono ?_
  rintro e w3 ⟨⟨up, rfl, rp⟩, hb3⟩
  have ra_3 := ra_2.below hb3
  have rb_3 := rb_2.below hb3
  have rc_3 := rc_2.below hb3
  have HT_3 := hide (HT_2.out.below hb3)
  have rs_3 := rs_2.below hb3
  have rt_3 := rt.below hb3
  have hbs3 := below_then hbs2 hb3
  clear ra_2 rb_2 rc_2 HT_2 rs_2 rt hbs2 hb3
  go_wp2_with fail
  refine (mulW _ _ X Z _ ra_3 rc_3 hXl.out hZl.out hQl.out).mono ?_
  rintro e w4 ⟨⟨uq, rfl, rq⟩, hb4⟩
  have ra_4 := ra_3.below hb4
  have rb_4 := rb_3.below hb4
  have rc_4 := rc_3.below hb4
  have HT_4 := hide (HT_3.out.below hb4)
  have rs_4 := rs_3.below hb4
  have rt_4 := rt_3.below hb4
  have rp_4 := rp.below hb4
  have hbs4 := below_then hbs3 hb4
  clear ra_3 rb_3 rc_3 HT_3 rs_3 rt_3 rp hbs3 hb4
  go_wp2_with fail
  refine (mulW _ _ Z Y _ rc_4 rb_4 hZl.out hYl.out hRl.out).mono ?_
  rintro e w5 ⟨⟨ur, rfl, rr⟩, hb5⟩
  have ra_5 := ra_4.below hb5
  have rb_5 := rb_4.below hb5
  have rc_5 := rc_4.below hb5
  have HT_5 := hide (HT_4.out.below hb5)
  have rs_5 := rs_4.below hb5
  have rt_5 := rt_4.below hb5
  have rp_5 := rp_4.below hb5
  have rq_5 := rq.below hb5
  have hbs5 := below_then hbs4 hb5
  clear ra_4 rb_4 rc_4 HT_4 rs_4 rt_4 rp_4 rq hbs4 hb5
  clear rc_5
  go_wp2_with fail
  refine (addW _ _ (X * Z) (Z * Y) _ rq_5 rr hQl.out hRl.out hUl.out).mono ?_
  rintro e w6 ⟨⟨uu, rfl, ru⟩, hb6⟩
  have ra_6 := ra_5.below hb6
  have rb_6 := rb_5.below hb6
  have HT_6 := hide (HT_5.out.below hb6)
  have rs_6 := rs_5.below hb6
  have rt_6 := rt_5.below hb6
  have rp_6 := rp_5.below hb6
  have rq_6 := rq_5.below hb6
  have rr_6 := rr.below hb6
  have hbs6 := below_then hbs5 hb6
  clear ra_5 rb_5 HT_5 rs_5 rt_5 rp_5 rq_5 rr hbs5 hb6
  clear rq_6
  clear rr_6
  go_wp2_with fail
  refine (subW _ _ (X + Y) X _ rs_6 ra_6 hSl.out hXl.out (Nat.le_add_right _ _)).mono ?_
  rintro e w7 ⟨⟨ud, rfl, rd⟩, hb7⟩
  have ra_7 := ra_6.below hb7
  have rb_7 := rb_6.below hb7
  have HT_7 := hide (HT_6.out.below hb7)
  have rs_7 := rs_6.below hb7
  have rt_7 := rt_6.below hb7
  have rp_7 := rp_6.below hb7
  have ru_7 := ru.below hb7
  have hbs7 := below_then hbs6 hb7
  clear ra_6 rb_6 HT_6 rs_6 rt_6 rp_6 ru hbs6 hb7
  go_wp2_with fail
  refine (told1_any _ HT_7.out).mono ?_
  rintro e w8 ⟨rfl, hb8⟩
  have ra_8 := ra_7.below hb8
  have rb_8 := rb_7.below hb8
  have HT_8 := hide (HT_7.out.below hb8)
  have rs_8 := rs_7.below hb8
  have rt_8 := rt_7.below hb8
  have rp_8 := rp_7.below hb8
  have ru_8 := ru_7.below hb8
  have rd_8 := rd.below hb8
  have hbs8 := below_then hbs7 hb8
  clear ra_7 rb_7 HT_7 rs_7 rt_7 rp_7 ru_7 rd hbs7 hb8
  clear HT_8
  rw [eTS.out] at rt_8
  rw [eU.out] at ru_8
  rw [eD.out] at rd_8
  go_wp2_with fail
  refine (same_R _ _ (X + Y) _ rs_8 rt_8).mono ?_
  rintro e w9 ⟨rfl, hb9⟩
  have ra_9 := ra_8.below hb9
  have rb_9 := rb_8.below hb9
  have rs_9 := rs_8.below hb9
  have rt_9 := rt_8.below hb9
  have rp_9 := rp_8.below hb9
  have ru_9 := ru_8.below hb9
  have rd_9 := rd_8.below hb9
  have hbs9 := below_then hbs8 hb9
  clear ra_8 rb_8 rs_8 rt_8 rp_8 ru_8 rd_8 hbs8 hb9
  clear rt_9
  go_wp2_with fail
  refine (same_R _ _ ((X + Y) * Z) _ rp_9 ru_9).mono ?_
  rintro e w10 ⟨rfl, hb10⟩
  have ra_10 := ra_9.below hb10
  have rb_10 := rb_9.below hb10
  have rs_10 := rs_9.below hb10
  have rp_10 := rp_9.below hb10
  have ru_10 := ru_9.below hb10
  have rd_10 := rd_9.below hb10
  have hbs10 := below_then hbs9 hb10
  clear ra_9 rb_9 rs_9 rp_9 ru_9 rd_9 hbs9 hb10
  clear rp_10
  clear ru_10
  go_wp2_with fail
  refine (same_R _ _ Y _ rd_10 rb_10).mono ?_
  rintro e w11 ⟨rfl, hb11⟩
  have ra_11 := ra_10.below hb11
  have rb_11 := rb_10.below hb11
  have rs_11 := rs_10.below hb11
  have rd_11 := rd_10.below hb11
  have hbs11 := below_then hbs10 hb11
  clear ra_10 rb_10 rs_10 rd_10 hbs10 hb11
  clear rd_11
  clear rb_11
  go_wp2_with fail
  refine (cmpV _ _ (X + Y) X _ rs_11 ra_11 hSl.out hXl.out).mono ?_
  rintro e w12 ⟨rfl, hb12⟩
  have ra_12 := ra_11.below hb12
  have rs_12 := rs_11.below hb12
  have hbs12 := below_then hbs11 hb12
  clear ra_11 rs_11 hbs11 hb12
  rcases hcm.out with hc0 | hc0 <;> rw [hc0]
  · go_wp2_with fail
    go_ret
    exact ⟨rfl, hbs12⟩
  · go_wp2_with fail
    go_ret
    exact ⟨rfl, hbs12⟩
end Go.Proofs.YtdnknokhcliikaaDoor
