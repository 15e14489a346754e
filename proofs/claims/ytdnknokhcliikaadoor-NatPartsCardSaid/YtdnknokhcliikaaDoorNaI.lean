/- sluicewaylaw1: the walk of NatParts. Printed by wip/mk_NaI.py. -/
import Derived.Test.YtdnknokhcliikaaDoorNaH
namespace Go.Proofs.YtdnknokhcliikaaDoor
open Go.RowKit Pl

theorem divBadL (A : Option Addr) (n c : Nat) (xs : List Nat) (B : Option Addr) (m d : Nat) (ys : List Nat) (w : World) (h : RdN .u64 w A n c xs) (k : RdN .u64 w B m d ys) (hm : (mayN xs && mayN ys) = false) :
    Calls Tryd.prog 37 #[.slice A n c, .slice B m d] w fun e w' => (∃ A c B d, e = .returned (.tuple #[.slice A 0 c, .slice B 0 d, .int .i64 1])) ∧ Below w.heap.size w w' :=
  (divF_bad A n c xs B m d ys w h k hm).mono fun e w' ⟨⟨u, v, he, hu, hv⟩, hb⟩ => by
    obtain ⟨A, c, rfl⟩ := hu.zero
    obtain ⟨B, d, rfl⟩ := hv.zero
    exact ⟨⟨A, c, B, d, he⟩, hb⟩
theorem divNilL (A : Option Addr) (n c : Nat) (xs : List Nat) (B : Option Addr) (d : Nat) (w : World) (h : RdN .u64 w A n c xs) (k : RdN .u64 w B 0 d []) (hm : mayN xs = true) :
    Calls Tryd.prog 37 #[.slice A n c, .slice B 0 d] w fun e w' => (∃ A c B d, e = .returned (.tuple #[.slice A 0 c, .slice B 0 d, .int .i64 4])) ∧ Below w.heap.size w w' :=
  (divF_nil A n c xs B d w h k hm).mono fun e w' ⟨⟨u, v, he, hu, hv⟩, hb⟩ => by
    obtain ⟨A, c, rfl⟩ := hu.zero
    obtain ⟨B, d, rfl⟩ := hv.zero
    exact ⟨⟨A, c, B, d, he⟩, hb⟩

set_option maxRecDepth 100000 in
set_option maxHeartbeats 4000000 in
theorem natParts_any (A : Option Addr) (n c : Nat) (xs : List Nat) (B : Option Addr) (m d : Nat) (ys : List Nat) (w : World)
    (h : RdN .u64 w A n c xs) (k : RdN .u64 w B m d ys) (hl : Lim BB xs) (kl : Lim BB ys) (hT : TabAt w) :
    Calls Tryd.prog 9 #[.slice A n c, .slice B m d] w fun x w' => x = .returned (.bool true) ∧ Below w.heap.size w w' := by
  have hlen := h.len
  have hcap := h.cap
  have hmax := h.max
  have klen := k.len
  have kcap := k.cap
  have kmax := k.max
  unfold maxLen at hmax kmax
  have HT := hide hT
  clear hT
  rcases Nat.lt_or_ge 20 n with hq0 | ha
  · have hq : (20 : Int) < (n : Int) := by omega
    go_enter Tryd.func9, Tryd.ntmps9
    go_wp2_with fail
    refine (told1_any _ HT.out).mono ?_
    rintro e w1 ⟨rfl, hb1⟩
    go_wp2
    go_ret
    exact ⟨rfl, hb1⟩
  rcases Nat.lt_or_ge 20 m with hq0 | hb
  · have hq : (20 : Int) < (m : Int) := by omega
    go_enter Tryd.func9, Tryd.ntmps9
    go_wp2_with fail
    refine (told1_any _ HT.out).mono ?_
    rintro e w1 ⟨rfl, hb1⟩
    go_wp2
    go_ret
    exact ⟨rfl, hb1⟩
  cases hma : mayN xs
  · skip
    cases hmb : mayN ys <;>
    · skip
      have hbad : (mayN xs && mayN ys) = false := by rw [hma]; rfl
      have hbz : Below w.heap.size w w := Below.refl _ _
      go_enter Tryd.func9, Tryd.ntmps9
      go_wp2_with fail
      refine (divBadL A n c xs B m d ys _ h k hbad).mono ?_
      rintro e w1 ⟨⟨A1, c1, A2, c2, rfl⟩, hb1⟩
      have h_1 := h.below hb1
      have k_1 := k.below hb1
      have HT_1 := hide (HT.out.below hb1)
      have hbs1 := below_then hbz hb1
      clear h k HT hbz hb1
      go_wp2_with fail
      refine (rootBad A n c xs _ h_1 hma).mono ?_
      rintro e w' ⟨rfl, rfl⟩
      go_wp2_with (go_at_call 26; first | (with_reducible refine (rmay_any A n c xs _ h_1).mono ?_; rw [hma]; rintro e w' ⟨rfl, rfl⟩) | (with_reducible refine (rmay_any B m d ys _ k_1).mono ?_; rw [hmb]; rintro e w' ⟨rfl, rfl⟩))
      refine (told1_any _ HT_1.out).mono ?_
      rintro e w2 ⟨rfl, hb2⟩
      have h_2 := h_1.below hb2
      have k_2 := k_1.below hb2
      have HT_2 := hide (HT_1.out.below hb2)
      have hbs2 := below_then hbs1 hb2
      clear h_1 k_1 HT_1 hbs1 hb2
      clear HT_2
      go_wp2_with (go_at_call 26; first | (with_reducible refine (rmay_any A n c xs _ h_2).mono ?_; rw [hma]; rintro e w' ⟨rfl, rfl⟩) | (with_reducible refine (rmay_any B m d ys _ k_2).mono ?_; rw [hmb]; rintro e w' ⟨rfl, rfl⟩))
      go_ret
      exact ⟨rfl, hbs2⟩
  cases hmb : mayN ys
  · skip
    have hbad : (mayN xs && mayN ys) = false := by rw [hmb]; exact Bool.and_false _
    have hX20 := val_lt_len hl (show xs.length ≤ 20 by omega)
    have ra := R64.of_may h hl hma
    have hXl := hide (pow_mono64 hX20 (by omega))
    clear hX20
    have hbz : Below w.heap.size w w := Below.refl _ _
    go_enter Tryd.func9, Tryd.ntmps9
    go_wp2_with fail
    refine (divBadL A n c xs B m d ys _ h k hbad).mono ?_
    rintro e w1 ⟨⟨A1, c1, A2, c2, rfl⟩, hb1⟩
    have h_1 := h.below hb1
    have k_1 := k.below hb1
    have HT_1 := hide (HT.out.below hb1)
    have ra_1 := ra.below hb1
    have hbs1 := below_then hbz hb1
    clear h k HT ra hbz hb1
    go_wp2_with fail
    refine (rootW _ (val BB xs) _ ra_1 hXl.out).mono ?_
    rintro e w2 ⟨⟨ux, rfl, rx⟩, hb2⟩
    have h_2 := h_1.below hb2
    have k_2 := k_1.below hb2
    have HT_2 := hide (HT_1.out.below hb2)
    have ra_2 := ra_1.below hb2
    have hbs2 := below_then hbs1 hb2
    clear h_1 k_1 HT_1 ra_1 hbs1 hb2
    obtain ⟨Ax, nx, cx, rfl, hrx⟩ := rx
    clear hrx
    go_wp2_with (go_at_call 26; first | (with_reducible refine (rmay_any A n c xs _ h_2).mono ?_; rw [hma]; rintro e w' ⟨rfl, rfl⟩) | (with_reducible refine (rmay_any B m d ys _ k_2).mono ?_; rw [hmb]; rintro e w' ⟨rfl, rfl⟩))
    refine (told1_any _ HT_2.out).mono ?_
    rintro e w3 ⟨rfl, hb3⟩
    have h_3 := h_2.below hb3
    have k_3 := k_2.below hb3
    have HT_3 := hide (HT_2.out.below hb3)
    have ra_3 := ra_2.below hb3
    have hbs3 := below_then hbs2 hb3
    clear h_2 k_2 HT_2 ra_2 hbs2 hb3
    clear HT_3
    go_wp2_with (go_at_call 26; first | (with_reducible refine (rmay_any A n c xs _ h_3).mono ?_; rw [hma]; rintro e w' ⟨rfl, rfl⟩) | (with_reducible refine (rmay_any B m d ys _ k_3).mono ?_; rw [hmb]; rintro e w' ⟨rfl, rfl⟩))
    go_ret
    exact ⟨rfl, hbs3⟩
  have hX20 := val_lt_len hl (show xs.length ≤ 20 by omega)
  have hY20 := val_lt_len kl (show ys.length ≤ 20 by omega)
  have ra := R64.of_may h hl hma
  have rb := R64.of_may k kl hmb
  have hXl := hide (pow_mono64 hX20 (by omega))
  have hYl := hide (pow_mono64 hY20 (by omega))
  have hXf := hide (pow_big hXl.out (show 64 ≤ 100 by omega))
  have hYf := hide (pow_big hYl.out (show 64 ≤ 100 by omega))
  have hXb := blen_64 hXl.out
  have hYb := blen_64 hYl.out
  have hX4 : Hid (blen (val BB xs) ≤ 400000) := by unfold Hid; omega
  have hX9 : Hid (blen (val BB xs) ≤ 900000) := by unfold Hid; omega
  have hY9 : Hid (blen (val BB ys) ≤ 900000) := by unfold Hid; omega
  have hNb : Hid (blen (nroot (val BB xs)) ≤ 1000000) := Nat.le_trans (blen_mono (nroot_le _)) (by omega)
  have hNl := Nat.lt_of_le_of_lt (nroot_le _) hXl.out
  have HNC : Hid ((nroot (val BB xs), 0) = capF (nroot (val BB xs))) := (capF_lt hNl).symm
  clear hX20 hY20 hNl hXb hYb
  rcases Nat.eq_zero_or_pos m with hm0 | hpos
  · obtain rfl : ys = [] := List.length_eq_zero_iff.1 (by omega)
    subst hm0
    have hbz : Below w.heap.size w w := Below.refl _ _
    go_enter Tryd.func9, Tryd.ntmps9
    go_wp2_with fail
    refine (divNilL A n c xs B d _ h k hma).mono ?_
    rintro e w1 ⟨⟨A1, c1, A2, c2, rfl⟩, hb1⟩
    have h_1 := h.below hb1
    have k_1 := k.below hb1
    have ra_1 := ra.below hb1
    have rb_1 := rb.below hb1
    have HT_1 := hide (HT.out.below hb1)
    have hbs1 := below_then hbz hb1
    clear h k ra rb HT hbz hb1
    go_wp2_with fail
    refine (rootW _ (val BB xs) _ ra_1 hXl.out).mono ?_
    rintro e w2 ⟨⟨ux, rfl, rx⟩, hb2⟩
    have h_2 := h_1.below hb2
    have k_2 := k_1.below hb2
    have ra_2 := ra_1.below hb2
    have rb_2 := rb_1.below hb2
    have HT_2 := hide (HT_1.out.below hb2)
    have hbs2 := below_then hbs1 hb2
    clear h_1 k_1 ra_1 rb_1 HT_1 hbs1 hb2
    go_wp2_with (go_at_call 26; first | (with_reducible refine (rmay_any A n c xs _ h_2).mono ?_; rw [hma]; rintro e w' ⟨rfl, rfl⟩) | (with_reducible refine (rmay_any B 0 d [] _ k_2).mono ?_; rw [hmb]; rintro e w' ⟨rfl, rfl⟩))
    refine (fromV _ _ _ ra_2 hXf.out).mono ?_
    rintro e w3 ⟨va, rfl, sa, hb3⟩
    have h_3 := h_2.below hb3
    have k_3 := k_2.below hb3
    have ra_3 := ra_2.below hb3
    have rb_3 := rb_2.below hb3
    have HT_3 := hide (HT_2.out.below hb3)
    have rx_3 := rx.below hb3
    have hbs3 := below_then hbs2 hb3
    clear h_2 k_2 ra_2 rb_2 HT_2 rx hbs2 hb3
    go_wp2_with fail
    refine (fromV _ _ _ rb_3 hYf.out).mono ?_
    rintro e w4 ⟨vb, rfl, sb, hb4⟩
    have h_4 := h_3.below hb4
    have k_4 := k_3.below hb4
    have ra_4 := ra_3.below hb4
    have rb_4 := rb_3.below hb4
    have HT_4 := hide (HT_3.out.below hb4)
    have rx_4 := rx_3.below hb4
    have sa_4 := sa.below hb4
    have hbs4 := below_then hbs3 hb4
    clear h_3 k_3 ra_3 rb_3 HT_3 rx_3 sa hbs3 hb4
    clear h_4
    clear k_4
    clear ra_4
    clear rb_4
    go_wp2_with fail
    refine (rroot_any _ _ _ sa_4 hX4.out).mono ?_
    rintro e w5 ⟨⟨vr, rfl, sr⟩, hb5⟩
    have HT_5 := hide (HT_4.out.below hb5)
    have rx_5 := rx_4.below hb5
    have sa_5 := sa_4.below hb5
    have sb_5 := sb.below hb5
    have hbs5 := below_then hbs4 hb5
    clear HT_4 rx_4 sa_4 sb hbs4 hb5
    go_wp2_with fail
    refine (is_R _ _ _ _ (nroot (val BB xs)) _ HNC.out rx_5 sr hNb.out).mono ?_
    rintro e w6 ⟨rfl, hb6⟩
    have HT_6 := hide (HT_5.out.below hb6)
    have rx_6 := rx_5.below hb6
    have sa_6 := sa_5.below hb6
    have sb_6 := sb_5.below hb6
    have sr_6 := sr.below hb6
    have hbs6 := below_then hbs5 hb6
    clear HT_5 rx_5 sa_5 sb_5 sr hbs5 hb6
    clear rx_6
    clear sr_6
    obtain ⟨As, ns, cs, rfl, hrs⟩ := sb_6
    obtain rfl : ns = 0 := by rw [← hrs.len]; rfl
    clear hrs
    go_wp2_with fail
    refine (told1_any _ HT_6.out).mono ?_
    rintro e w7 ⟨rfl, hb7⟩
    have HT_7 := hide (HT_6.out.below hb7)
    have sa_7 := sa_6.below hb7
    have hbs7 := below_then hbs6 hb7
    clear HT_6 sa_6 hbs6 hb7
    go_wp2_with fail
    go_ret
    exact ⟨rfl, hbs7⟩
  · have hm1 : ((m : Int) == 0) = false := by rw [beq_eq_false_iff_ne]; omega
    have hY0 : Hid (0 < val BB ys) := Nat.pos_of_ne_zero (val_pos_may hmb (by omega))
    have hQb : Hid (blen (val BB xs / val BB ys) ≤ 1000000) := Nat.le_trans (blen_mono (Nat.div_le_self _ _)) (by have := hX4.out; omega)
    have hRb : Hid (blen (val BB xs % val BB ys) ≤ 1000000) := Nat.le_trans (blen_mono (Nat.mod_le _ _)) (by have := hX4.out; omega)
    have HQC : Hid ((val BB xs / val BB ys, 0) = capF (val BB xs / val BB ys)) := (capF_lt (Nat.lt_of_le_of_lt (Nat.div_le_self _ _) hXl.out)).symm
    have HRC : Hid ((val BB xs % val BB ys, 0) = capF (val BB xs % val BB ys)) := (capF_lt (Nat.lt_of_le_of_lt (Nat.mod_le _ _) hXl.out)).symm
    have hbz : Below w.heap.size w w := Below.refl _ _
    go_enter Tryd.func9, Tryd.ntmps9
    go_wp2_with fail
    refine (divW _ _ _ _ _ ra rb hXl.out hYl.out hY0.out).mono ?_
    rintro e w1 ⟨⟨uq, ur, rfl, rq, rr⟩, hb1⟩
    have h_1 := h.below hb1
    have k_1 := k.below hb1
    have ra_1 := ra.below hb1
    have rb_1 := rb.below hb1
    have HT_1 := hide (HT.out.below hb1)
    have hbs1 := below_then hbz hb1
    clear h k ra rb HT hbz hb1
    go_wp2_with fail
    refine (rootW _ (val BB xs) _ ra_1 hXl.out).mono ?_
    rintro e w2 ⟨⟨ux, rfl, rx⟩, hb2⟩
    have h_2 := h_1.below hb2
    have k_2 := k_1.below hb2
    have ra_2 := ra_1.below hb2
    have rb_2 := rb_1.below hb2
    have HT_2 := hide (HT_1.out.below hb2)
    have rq_2 := rq.below hb2
    have rr_2 := rr.below hb2
    have hbs2 := below_then hbs1 hb2
    clear h_1 k_1 ra_1 rb_1 HT_1 rq rr hbs1 hb2
    go_wp2_with (go_at_call 26; first | (with_reducible refine (rmay_any A n c xs _ h_2).mono ?_; rw [hma]; rintro e w' ⟨rfl, rfl⟩) | (with_reducible refine (rmay_any B m d ys _ k_2).mono ?_; rw [hmb]; rintro e w' ⟨rfl, rfl⟩))
    refine (fromV _ _ _ ra_2 hXf.out).mono ?_
    rintro e w3 ⟨va, rfl, sa, hb3⟩
    have h_3 := h_2.below hb3
    have k_3 := k_2.below hb3
    have ra_3 := ra_2.below hb3
    have rb_3 := rb_2.below hb3
    have HT_3 := hide (HT_2.out.below hb3)
    have rq_3 := rq_2.below hb3
    have rr_3 := rr_2.below hb3
    have rx_3 := rx.below hb3
    have hbs3 := below_then hbs2 hb3
    clear h_2 k_2 ra_2 rb_2 HT_2 rq_2 rr_2 rx hbs2 hb3
    go_wp2_with fail
    refine (fromV _ _ _ rb_3 hYf.out).mono ?_
    rintro e w4 ⟨vb, rfl, sb, hb4⟩
    have h_4 := h_3.below hb4
    have k_4 := k_3.below hb4
    have ra_4 := ra_3.below hb4
    have rb_4 := rb_3.below hb4
    have HT_4 := hide (HT_3.out.below hb4)
    have rq_4 := rq_3.below hb4
    have rr_4 := rr_3.below hb4
    have rx_4 := rx_3.below hb4
    have sa_4 := sa.below hb4
    have hbs4 := below_then hbs3 hb4
    clear h_3 k_3 ra_3 rb_3 HT_3 rq_3 rr_3 rx_3 sa hbs3 hb4
    clear h_4
    clear k_4
    clear ra_4
    clear rb_4
    go_wp2_with fail
    refine (rroot_any _ _ _ sa_4 hX4.out).mono ?_
    rintro e w5 ⟨⟨vr, rfl, sr⟩, hb5⟩
    have HT_5 := hide (HT_4.out.below hb5)
    have rq_5 := rq_4.below hb5
    have rr_5 := rr_4.below hb5
    have rx_5 := rx_4.below hb5
    have sa_5 := sa_4.below hb5
    have sb_5 := sb.below hb5
    have hbs5 := below_then hbs4 hb5
    clear HT_4 rq_4 rr_4 rx_4 sa_4 sb hbs4 hb5
    go_wp2_with fail
    refine (is_R _ _ _ _ (nroot (val BB xs)) _ HNC.out rx_5 sr hNb.out).mono ?_
    rintro e w6 ⟨rfl, hb6⟩
    have HT_6 := hide (HT_5.out.below hb6)
    have rq_6 := rq_5.below hb6
    have rr_6 := rr_5.below hb6
    have rx_6 := rx_5.below hb6
    have sa_6 := sa_5.below hb6
    have sb_6 := sb_5.below hb6
    have sr_6 := sr.below hb6
    have hbs6 := below_then hbs5 hb6
    clear HT_5 rq_5 rr_5 rx_5 sa_5 sb_5 sr hbs5 hb6
    clear rx_6
    clear sr_6
    obtain ⟨As, ns, cs, rfl, hrs⟩ := sb_6
    have hns : ((ns : Int) == 0) = false := by
      rw [beq_eq_false_iff_ne]; intro e
      have h1 := hrs.len
      rw [show ns = 0 by omega] at h1
      have h2 := (limbs_eq_nil DD_gt1).1 (List.length_eq_zero_iff.1 h1)
      have := hY0.out; omega
    have hcs := hrs.cap
    have hms := hrs.max
    unfold maxLen at hms
    have sb9 : R16 w6 (.slice As ns cs) (val BB ys) := ⟨_, _, _, rfl, hrs⟩
    clear hrs
    go_wp2_with fail
    refine (rdiv_any _ _ _ _ _ sa_6 sb9 hX9.out hY9.out hY0.out).mono ?_
    rintro e w7 ⟨⟨vq, vv, rfl, sq, sv⟩, hb7⟩
    have HT_7 := hide (HT_6.out.below hb7)
    have rq_7 := rq_6.below hb7
    have rr_7 := rr_6.below hb7
    have sa_7 := sa_6.below hb7
    have sb_7 := sb9.below hb7
    have hbs7 := below_then hbs6 hb7
    clear HT_6 rq_6 rr_6 sa_6 sb9 hbs6 hb7
    clear sa_7
    clear sb_7
    go_wp2_with fail
    refine (told1_any _ HT_7.out).mono ?_
    rintro e w8 ⟨rfl, hb8⟩
    have HT_8 := hide (HT_7.out.below hb8)
    have rq_8 := rq_7.below hb8
    have rr_8 := rr_7.below hb8
    have sq_8 := sq.below hb8
    have sv_8 := sv.below hb8
    have hbs8 := below_then hbs7 hb8
    clear HT_7 rq_7 rr_7 sq sv hbs7 hb8
    clear HT_8
    go_wp2_with fail
    refine (is_R _ _ _ _ (val BB xs / val BB ys) _ HQC.out rq_8 sq_8 hQb.out).mono ?_
    rintro e w9 ⟨rfl, hb9⟩
    have rq_9 := rq_8.below hb9
    have rr_9 := rr_8.below hb9
    have sq_9 := sq_8.below hb9
    have sv_9 := sv_8.below hb9
    have hbs9 := below_then hbs8 hb9
    clear rq_8 rr_8 sq_8 sv_8 hbs8 hb9
    clear rq_9
    clear sq_9
    go_wp2_with fail
    refine (is_R _ _ _ _ (val BB xs % val BB ys) _ HRC.out rr_9 sv_9 hRb.out).mono ?_
    rintro e w10 ⟨rfl, hb10⟩
    have rr_10 := rr_9.below hb10
    have sv_10 := sv_9.below hb10
    have hbs10 := below_then hbs9 hb10
    clear rr_9 sv_9 hbs9 hb10
    go_wp2_with fail
    go_ret
    exact ⟨rfl, hbs10⟩
end Go.Proofs.YtdnknokhcliikaaDoor
