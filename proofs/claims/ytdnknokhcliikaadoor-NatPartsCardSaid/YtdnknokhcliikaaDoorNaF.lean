/- sluicewaylaw1: the walk of NatAsks. Printed by wip/mk_NaF.py. -/
import Derived.Test.YtdnknokhcliikaaDoorNaE
import Derived.Test.YtdnknokhcliikaaDoorRfJ
namespace Go.Proofs.YtdnknokhcliikaaDoor
open Go.RowKit Pl

/-- A face's answer where an argument is no natural. -/
theorem tup_bad {w : World} {e : Ending} (h : Tup w e (0, 1)) : ∃ A c, e = .returned (.tuple #[.slice A 0 c, .int .i64 1]) := by
  obtain ⟨u, rfl, hu⟩ := h
  obtain ⟨A, c, rfl⟩ := hu.zero
  exact ⟨A, c, rfl⟩
/-- A face's answer, its two numbers behind letters. -/
theorem tup_two {w : World} {e : Ending} {r : Nat × Int} (h : Tup w e r) : ∃ p q u, (p, q) = r ∧ e = .returned (.tuple #[u, .int .i64 q]) ∧ R64 w u p := by
  obtain ⟨u, rfl, hu⟩ := h
  exact ⟨r.1, r.2, u, rfl, rfl, hu⟩
section
variable (A : Option Addr) (n c : Nat) (xs : List Nat) (B : Option Addr) (m d : Nat) (ys : List Nat) (w : World) (h : RdN .u64 w A n c xs) (k : RdN .u64 w B m d ys) (hl : Lim BB xs) (kl : Lim BB ys) (hm : (mayN xs && mayN ys) = false)
include h k hl kl hm in
theorem addBad : Calls Tryd.prog 34 #[.slice A n c, .slice B m d] w fun e w' => (∃ A c, e = .returned (.tuple #[.slice A 0 c, .int .i64 1])) ∧ Below w.heap.size w w' := by
  have h1 := addF_any A n c xs B m d ys w h k hl kl
  rw [if_neg (by rw [hm]; simp)] at h1
  exact h1.mono fun e w' ⟨ht, hb⟩ => ⟨tup_bad ht, hb⟩
include h k hl kl hm in
theorem mulBad : Calls Tryd.prog 36 #[.slice A n c, .slice B m d] w fun e w' => (∃ A c, e = .returned (.tuple #[.slice A 0 c, .int .i64 1])) ∧ Below w.heap.size w w' := by
  have h1 := mulF_any A n c xs B m d ys w h k hl kl
  rw [if_neg (by rw [hm]; simp)] at h1
  exact h1.mono fun e w' ⟨ht, hb⟩ => ⟨tup_bad ht, hb⟩
include h k hl kl hm in
theorem subBad : Calls Tryd.prog 41 #[.slice A n c, .slice B m d] w fun e w' => (∃ A c, e = .returned (.tuple #[.slice A 0 c, .int .i64 1])) ∧ Below w.heap.size w w' := by
  have h1 := subF_any A n c xs B m d ys w h k hl kl
  rw [if_neg (by rw [hm]; simp)] at h1
  exact h1.mono fun e w' ⟨ht, hb⟩ => ⟨tup_bad ht, hb⟩
include h k hm in
theorem cmpBad : Calls Tryd.prog 42 #[.slice A n c, .slice B m d] w fun e w' => e = .returned (.int .i64 0) ∧ Below w.heap.size w w' := by
  have h1 := cmpF_any A n c xs B m d ys w h k
  rw [if_neg (by rw [hm]; simp)] at h1
  exact h1
end
section
variable (u v : Value) (X Y : Nat) (w : World) (h : R64 w u X) (k : R64 w v Y) (hX : X < BB ^ 64) (hY : Y < BB ^ 64)
include h k hX hY in
theorem addL : Calls Tryd.prog 34 #[u, v] w fun e w' => (∃ p q z, (p, q) = capF (X + Y) ∧ e = .returned (.tuple #[z, .int .i64 q]) ∧ R64 w' z p) ∧ Below w.heap.size w w' :=
  (addV u v X Y w h k hX hY).mono fun _ _ ⟨ht, hb⟩ => ⟨tup_two ht, hb⟩
include h k hX hY in
theorem mulL : Calls Tryd.prog 36 #[u, v] w fun e w' => (∃ p q z, (p, q) = capF (X * Y) ∧ e = .returned (.tuple #[z, .int .i64 q]) ∧ R64 w' z p) ∧ Below w.heap.size w w' :=
  (mulV u v X Y w h k hX hY).mono fun _ _ ⟨ht, hb⟩ => ⟨tup_two ht, hb⟩
include h k in
theorem subLess (hlt : X < Y) : Calls Tryd.prog 41 #[u, v] w fun e w' => (∃ A c, e = .returned (.tuple #[.slice A 0 c, .int .i64 1])) ∧ Below w.heap.size w w' := by
  obtain ⟨A, n, c, rfl, hr⟩ := h
  obtain ⟨B, m, d, rfl, kr⟩ := k
  have h1 := subF_any A n c _ B m d _ w hr kr (limbs_lim BB_gt1 X) (limbs_lim BB_gt1 Y)
  rw [limbs_val BB_gt1, limbs_val BB_gt1, if_neg (fun h => by omega)] at h1
  exact h1.mono fun e w' ⟨ht, hb⟩ => ⟨tup_bad ht, hb⟩
end

set_option maxRecDepth 100000 in
set_option maxHeartbeats 4000000 in
theorem natAsks_bad (A : Option Addr) (n c : Nat) (xs : List Nat) (B : Option Addr) (m d : Nat) (ys : List Nat) (w : World)
    (h : RdN .u64 w A n c xs) (k : RdN .u64 w B m d ys) (hl : Lim BB xs) (kl : Lim BB ys) (hT : TabAt w) (ha : (n : Int) ≤ 70) (hb : (m : Int) ≤ 70) (hbad : (mayN xs && mayN ys) = false) :
    Calls Tryd.prog 10 #[.slice A n c, .slice B m d] w fun x w' => x = .returned (.bool true) ∧ Below w.heap.size w w' := by
  have HT := hide hT
  clear hT
  have hfa := fun w h => few_any A n c xs w h
  have hfb := fun w k => few_any B m d ys w k
  rw [few_yes ha] at hfa
  rw [few_yes hb] at hfb
  clear ha hb
  cases hmx : mayN xs <;> cases hmy : mayN ys
  · skip
    have hbz : Below w.heap.size w w := Below.refl _ _
    go_enter Tryd.func10, Tryd.ntmps10
    go_wp2_with (go_at_call 18; first | (with_reducible refine (hfa _ h).mono ?_; rintro e w' ⟨rfl, rfl⟩) | (with_reducible refine (hfb _ k).mono ?_; rintro e w' ⟨rfl, rfl⟩))
    refine (addBad A n c xs B m d ys _ h k hl kl hbad).mono ?_
    rintro e w1 ⟨⟨Aadd, cadd, rfl⟩, hb1⟩
    have h_1 := h.below hb1
    have k_1 := k.below hb1
    have HT_1 := hide (HT.out.below hb1)
    have hbs1 := below_then hbz hb1
    clear h k HT hbz hb1
    go_wp2_with fail
    refine (subBad A n c xs B m d ys _ h_1 k_1 hl kl hbad).mono ?_
    rintro e w2 ⟨⟨Asub, csub, rfl⟩, hb2⟩
    have h_2 := h_1.below hb2
    have k_2 := k_1.below hb2
    have HT_2 := hide (HT_1.out.below hb2)
    have hbs2 := below_then hbs1 hb2
    clear h_1 k_1 HT_1 hbs1 hb2
    go_wp2_with fail
    refine (mulBad A n c xs B m d ys _ h_2 k_2 hl kl hbad).mono ?_
    rintro e w3 ⟨⟨Amul, cmul, rfl⟩, hb3⟩
    have h_3 := h_2.below hb3
    have k_3 := k_2.below hb3
    have HT_3 := hide (HT_2.out.below hb3)
    have hbs3 := below_then hbs2 hb3
    clear h_2 k_2 HT_2 hbs2 hb3
    go_wp2_with (go_at_call 26; first | (with_reducible refine (rmay_any A n c xs _ h_3).mono ?_; rw [hmx]; rintro e w' ⟨rfl, rfl⟩) | (with_reducible refine (rmay_any B m d ys _ k_3).mono ?_; rw [hmy]; rintro e w' ⟨rfl, rfl⟩))
    refine (told1_any _ HT_3.out).mono ?_
    rintro e w4 ⟨rfl, hb4⟩
    have h_4 := h_3.below hb4
    have k_4 := k_3.below hb4
    have HT_4 := hide (HT_3.out.below hb4)
    have hbs4 := below_then hbs3 hb4
    clear h_3 k_3 HT_3 hbs3 hb4
    clear HT_4
    go_wp2_with (first | (go_at_call 26; first | (with_reducible refine (rmay_any A n c xs _ h_4).mono ?_; rw [hmx]; rintro e w' ⟨rfl, rfl⟩) | (with_reducible refine (rmay_any B m d ys _ k_4).mono ?_; rw [hmy]; rintro e w' ⟨rfl, rfl⟩)) | (go_at_call 35; first | (with_reducible refine (may_any A n c xs _ h_4).mono ?_; rw [hmx]; rintro e w' ⟨rfl, rfl⟩) | (with_reducible refine (may_any B m d ys _ k_4).mono ?_; rw [hmy]; rintro e w' ⟨rfl, rfl⟩)))
    refine (cmpBad A n c xs B m d ys _ h_4 k_4 hbad).mono ?_
    rintro e w5 ⟨rfl, hb5⟩
    have h_5 := h_4.below hb5
    have k_5 := k_4.below hb5
    have hbs5 := below_then hbs4 hb5
    clear h_4 k_4 hbs4 hb5
    go_wp2_with fail
    go_ret
    exact ⟨rfl, hbs5⟩
  · skip
    have hbz : Below w.heap.size w w := Below.refl _ _
    go_enter Tryd.func10, Tryd.ntmps10
    go_wp2_with (go_at_call 18; first | (with_reducible refine (hfa _ h).mono ?_; rintro e w' ⟨rfl, rfl⟩) | (with_reducible refine (hfb _ k).mono ?_; rintro e w' ⟨rfl, rfl⟩))
    refine (addBad A n c xs B m d ys _ h k hl kl hbad).mono ?_
    rintro e w1 ⟨⟨Aadd, cadd, rfl⟩, hb1⟩
    have h_1 := h.below hb1
    have k_1 := k.below hb1
    have HT_1 := hide (HT.out.below hb1)
    have hbs1 := below_then hbz hb1
    clear h k HT hbz hb1
    go_wp2_with fail
    refine (subBad A n c xs B m d ys _ h_1 k_1 hl kl hbad).mono ?_
    rintro e w2 ⟨⟨Asub, csub, rfl⟩, hb2⟩
    have h_2 := h_1.below hb2
    have k_2 := k_1.below hb2
    have HT_2 := hide (HT_1.out.below hb2)
    have hbs2 := below_then hbs1 hb2
    clear h_1 k_1 HT_1 hbs1 hb2
    go_wp2_with fail
    refine (mulBad A n c xs B m d ys _ h_2 k_2 hl kl hbad).mono ?_
    rintro e w3 ⟨⟨Amul, cmul, rfl⟩, hb3⟩
    have h_3 := h_2.below hb3
    have k_3 := k_2.below hb3
    have HT_3 := hide (HT_2.out.below hb3)
    have hbs3 := below_then hbs2 hb3
    clear h_2 k_2 HT_2 hbs2 hb3
    go_wp2_with (go_at_call 26; first | (with_reducible refine (rmay_any A n c xs _ h_3).mono ?_; rw [hmx]; rintro e w' ⟨rfl, rfl⟩) | (with_reducible refine (rmay_any B m d ys _ k_3).mono ?_; rw [hmy]; rintro e w' ⟨rfl, rfl⟩))
    refine (told1_any _ HT_3.out).mono ?_
    rintro e w4 ⟨rfl, hb4⟩
    have h_4 := h_3.below hb4
    have k_4 := k_3.below hb4
    have HT_4 := hide (HT_3.out.below hb4)
    have hbs4 := below_then hbs3 hb4
    clear h_3 k_3 HT_3 hbs3 hb4
    clear HT_4
    go_wp2_with (first | (go_at_call 26; first | (with_reducible refine (rmay_any A n c xs _ h_4).mono ?_; rw [hmx]; rintro e w' ⟨rfl, rfl⟩) | (with_reducible refine (rmay_any B m d ys _ k_4).mono ?_; rw [hmy]; rintro e w' ⟨rfl, rfl⟩)) | (go_at_call 35; first | (with_reducible refine (may_any A n c xs _ h_4).mono ?_; rw [hmx]; rintro e w' ⟨rfl, rfl⟩) | (with_reducible refine (may_any B m d ys _ k_4).mono ?_; rw [hmy]; rintro e w' ⟨rfl, rfl⟩)))
    refine (cmpBad A n c xs B m d ys _ h_4 k_4 hbad).mono ?_
    rintro e w5 ⟨rfl, hb5⟩
    have h_5 := h_4.below hb5
    have k_5 := k_4.below hb5
    have hbs5 := below_then hbs4 hb5
    clear h_4 k_4 hbs4 hb5
    go_wp2_with fail
    go_ret
    exact ⟨rfl, hbs5⟩
  · skip
    have hbz : Below w.heap.size w w := Below.refl _ _
    go_enter Tryd.func10, Tryd.ntmps10
    go_wp2_with (go_at_call 18; first | (with_reducible refine (hfa _ h).mono ?_; rintro e w' ⟨rfl, rfl⟩) | (with_reducible refine (hfb _ k).mono ?_; rintro e w' ⟨rfl, rfl⟩))
    refine (addBad A n c xs B m d ys _ h k hl kl hbad).mono ?_
    rintro e w1 ⟨⟨Aadd, cadd, rfl⟩, hb1⟩
    have h_1 := h.below hb1
    have k_1 := k.below hb1
    have HT_1 := hide (HT.out.below hb1)
    have hbs1 := below_then hbz hb1
    clear h k HT hbz hb1
    go_wp2_with fail
    refine (subBad A n c xs B m d ys _ h_1 k_1 hl kl hbad).mono ?_
    rintro e w2 ⟨⟨Asub, csub, rfl⟩, hb2⟩
    have h_2 := h_1.below hb2
    have k_2 := k_1.below hb2
    have HT_2 := hide (HT_1.out.below hb2)
    have hbs2 := below_then hbs1 hb2
    clear h_1 k_1 HT_1 hbs1 hb2
    go_wp2_with fail
    refine (mulBad A n c xs B m d ys _ h_2 k_2 hl kl hbad).mono ?_
    rintro e w3 ⟨⟨Amul, cmul, rfl⟩, hb3⟩
    have h_3 := h_2.below hb3
    have k_3 := k_2.below hb3
    have HT_3 := hide (HT_2.out.below hb3)
    have hbs3 := below_then hbs2 hb3
    clear h_2 k_2 HT_2 hbs2 hb3
    go_wp2_with (go_at_call 26; first | (with_reducible refine (rmay_any A n c xs _ h_3).mono ?_; rw [hmx]; rintro e w' ⟨rfl, rfl⟩) | (with_reducible refine (rmay_any B m d ys _ k_3).mono ?_; rw [hmy]; rintro e w' ⟨rfl, rfl⟩))
    refine (told1_any _ HT_3.out).mono ?_
    rintro e w4 ⟨rfl, hb4⟩
    have h_4 := h_3.below hb4
    have k_4 := k_3.below hb4
    have HT_4 := hide (HT_3.out.below hb4)
    have hbs4 := below_then hbs3 hb4
    clear h_3 k_3 HT_3 hbs3 hb4
    clear HT_4
    go_wp2_with (first | (go_at_call 26; first | (with_reducible refine (rmay_any A n c xs _ h_4).mono ?_; rw [hmx]; rintro e w' ⟨rfl, rfl⟩) | (with_reducible refine (rmay_any B m d ys _ k_4).mono ?_; rw [hmy]; rintro e w' ⟨rfl, rfl⟩)) | (go_at_call 35; first | (with_reducible refine (may_any A n c xs _ h_4).mono ?_; rw [hmx]; rintro e w' ⟨rfl, rfl⟩) | (with_reducible refine (may_any B m d ys _ k_4).mono ?_; rw [hmy]; rintro e w' ⟨rfl, rfl⟩)))
    refine (cmpBad A n c xs B m d ys _ h_4 k_4 hbad).mono ?_
    rintro e w5 ⟨rfl, hb5⟩
    have h_5 := h_4.below hb5
    have k_5 := k_4.below hb5
    have hbs5 := below_then hbs4 hb5
    clear h_4 k_4 hbs4 hb5
    go_wp2_with fail
    go_ret
    exact ⟨rfl, hbs5⟩
  · rw [hmx, hmy] at hbad; cases hbad

set_option maxRecDepth 100000 in
set_option maxHeartbeats 4000000 in
theorem natAsks_good (u v : Value) (X Y : Nat) (A : Option Addr) (n c : Nat) (xs : List Nat) (B : Option Addr) (m d : Nat) (ys : List Nat) (w : World) (eu : u = .slice A n c) (ev : v = .slice B m d)
    (h : RdN .u64 w A n c xs) (k : RdN .u64 w B m d ys) (hT : TabAt w) (ha : (n : Int) ≤ 70) (hb : (m : Int) ≤ 70) (ra : R64 w u X) (rb : R64 w v Y) (hX : X < BB ^ 64) (hY : Y < BB ^ 64) :
    Calls Tryd.prog 10 #[u, v] w fun x w' => x = .returned (.bool true) ∧ Below w.heap.size w w' := by
  have HT := hide hT
  clear hT
  have hfa := fun w h => few_any A n c xs w h
  have hfb := fun w k => few_any B m d ys w k
  rw [few_yes ha, ← eu] at hfa
  rw [few_yes hb, ← ev] at hfb
  have hXl := hide hX
  have hYl := hide hY
  have hXf := hide (pow_big hX (show 64 ≤ 100 by omega))
  have hYf := hide (pow_big hY (show 64 ≤ 100 by omega))
  have hXb := blen_64 hX
  have hYb := blen_64 hY
  have hSb : Hid (blen (X + Y) ≤ 1000000) := Nat.le_trans (blen_add hXb hYb) (by omega)
  have hPb : Hid (blen (X * Y) ≤ 1000000) := Nat.le_trans (blen_mul hXb hYb) (by omega)
  have hDb : Hid (blen (X - Y) ≤ 1000000) := Nat.le_trans (blen_mono (Nat.sub_le X Y)) (by omega)
  have hXB : Hid (blen X ≤ 1500000) := Nat.le_trans hXb (by omega)
  have hYB : Hid (blen Y ≤ 1500000) := Nat.le_trans hYb (by omega)
  have hN := cmpN_neg X Y
  have hlt := cmpN_lt X Y
  have hrg := cmpN_rg X Y
  have hC1 := fun w h k => cmpV u v X Y w h k hX hY
  have hC2 := fun w k h => cmpV v u Y X w k h hY hX
  have hC3 := fun a b w h k => rcmpR a b X Y w h k
  rw [hN] at hC2
  obtain ⟨q, hq⟩ : ∃ q, q = cmpN X Y := ⟨_, rfl⟩
  rw [← hq] at hC1 hC2 hC3 hlt hrg
  clear hX hY hXb hYb hN hq ha hb eu ev
  by_cases hle0 : X < Y
  · have hle := hide hle0
    have hq0 := hlt.1 hle0
    clear hle0 hlt
    have hbz : Below w.heap.size w w := Below.refl _ _
    have hqs : q < 0 := by omega
    go_enter Tryd.func10, Tryd.ntmps10
    go_wp2_with (go_at_call 18; first | (with_reducible refine (hfa _ h).mono ?_; rintro e w' ⟨rfl, rfl⟩) | (with_reducible refine (hfb _ k).mono ?_; rintro e w' ⟨rfl, rfl⟩))
    refine (addL _ _ X Y _ ra rb hXl.out hYl.out).mono ?_
    rintro e w1 ⟨⟨sp, sq, us, hS, rfl, rs⟩, hb1⟩
    have ra_1 := ra.below hb1
    have rb_1 := rb.below hb1
    have HT_1 := hide (HT.out.below hb1)
    have hbs1 := below_then hbz hb1
    clear ra rb HT hbz hb1
    have HS := hide hS
    clear hS
    go_wp2_with fail
    refine (subLess _ _ X Y _ ra_1 rb_1 hle.out).mono ?_
    rintro e w2 ⟨⟨Ad, cd, rfl⟩, hb2⟩
    have ra_2 := ra_1.below hb2
    have rb_2 := rb_1.below hb2
    have HT_2 := hide (HT_1.out.below hb2)
    have rs_2 := rs.below hb2
    have hbs2 := below_then hbs1 hb2
    clear ra_1 rb_1 HT_1 rs hbs1 hb2
    go_wp2_with fail
    refine (mulL _ _ X Y _ ra_2 rb_2 hXl.out hYl.out).mono ?_
    rintro e w3 ⟨⟨mp, mq, um, hM, rfl, rm⟩, hb3⟩
    have ra_3 := ra_2.below hb3
    have rb_3 := rb_2.below hb3
    have HT_3 := hide (HT_2.out.below hb3)
    have rs_3 := rs_2.below hb3
    have hbs3 := below_then hbs2 hb3
    clear ra_2 rb_2 HT_2 rs_2 hbs2 hb3
    have HM := hide hM
    clear hM
    go_wp2_with (go_at_call 26; first | (with_reducible refine (rmayV u X _ ra_3 hXl.out).mono ?_; rintro e w' ⟨rfl, rfl⟩) | (with_reducible refine (rmayV v Y _ rb_3 hYl.out).mono ?_; rintro e w' ⟨rfl, rfl⟩))
    refine (fromV u X _ ra_3 hXf.out).mono ?_
    rintro e w4 ⟨ux, rfl, rx, hb4⟩
    have ra_4 := ra_3.below hb4
    have rb_4 := rb_3.below hb4
    have HT_4 := hide (HT_3.out.below hb4)
    have rs_4 := rs_3.below hb4
    have rm_4 := rm.below hb4
    have hbs4 := below_then hbs3 hb4
    clear ra_3 rb_3 HT_3 rs_3 rm hbs3 hb4
    go_wp2_with fail
    refine (fromV v Y _ rb_4 hYf.out).mono ?_
    rintro e w5 ⟨uy, rfl, ry, hb5⟩
    have ra_5 := ra_4.below hb5
    have rb_5 := rb_4.below hb5
    have HT_5 := hide (HT_4.out.below hb5)
    have rs_5 := rs_4.below hb5
    have rm_5 := rm_4.below hb5
    have rx_5 := rx.below hb5
    have hbs5 := below_then hbs4 hb5
    clear ra_4 rb_4 HT_4 rs_4 rm_4 rx hbs4 hb5
    go_wp2_with fail
    refine (hC3 ux uy _ rx_5 ry).mono ?_
    rintro e w6 ⟨rfl, hb6⟩
    have ra_6 := ra_5.below hb6
    have rb_6 := rb_5.below hb6
    have HT_6 := hide (HT_5.out.below hb6)
    have rs_6 := rs_5.below hb6
    have rm_6 := rm_5.below hb6
    have rx_6 := rx_5.below hb6
    have ry_6 := ry.below hb6
    have hbs6 := below_then hbs5 hb6
    clear ra_5 rb_5 HT_5 rs_5 rm_5 rx_5 ry hbs5 hb6
    go_wp2_with fail
    refine (hC1 _ ra_6 rb_6).mono ?_
    rintro e w7 ⟨rfl, hb7⟩
    have ra_7 := ra_6.below hb7
    have rb_7 := rb_6.below hb7
    have HT_7 := hide (HT_6.out.below hb7)
    have rs_7 := rs_6.below hb7
    have rm_7 := rm_6.below hb7
    have rx_7 := rx_6.below hb7
    have ry_7 := ry_6.below hb7
    have hbs7 := below_then hbs6 hb7
    clear ra_6 rb_6 HT_6 rs_6 rm_6 rx_6 ry_6 hbs6 hb7
    go_wp2_with fail
    refine (hC2 _ rb_7 ra_7).mono ?_
    rintro e w8 ⟨rfl, hb8⟩
    have ra_8 := ra_7.below hb8
    have rb_8 := rb_7.below hb8
    have HT_8 := hide (HT_7.out.below hb8)
    have rs_8 := rs_7.below hb8
    have rm_8 := rm_7.below hb8
    have rx_8 := rx_7.below hb8
    have ry_8 := ry_7.below hb8
    have hbs8 := below_then hbs7 hb8
    clear ra_7 rb_7 HT_7 rs_7 rm_7 rx_7 ry_7 hbs7 hb8
    clear ra_8
    clear rb_8
    go_wp2_with fail
    refine (radd_any ux uy X Y _ rx_8 ry_8 hXB.out hYB.out).mono ?_
    rintro e w9 ⟨uz, rfl, rz, hb9⟩
    have HT_9 := hide (HT_8.out.below hb9)
    have rs_9 := rs_8.below hb9
    have rm_9 := rm_8.below hb9
    have rx_9 := rx_8.below hb9
    have ry_9 := ry_8.below hb9
    have hbs9 := below_then hbs8 hb9
    clear HT_8 rs_8 rm_8 rx_8 ry_8 hbs8 hb9
    go_wp2_with fail
    refine (is_R us uz sp sq (X + Y) _ HS.out rs_9 rz hSb.out).mono ?_
    rintro e w10 ⟨rfl, hb10⟩
    have HT_10 := hide (HT_9.out.below hb10)
    have rs_10 := rs_9.below hb10
    have rm_10 := rm_9.below hb10
    have rx_10 := rx_9.below hb10
    have ry_10 := ry_9.below hb10
    have rz_10 := rz.below hb10
    have hbs10 := below_then hbs9 hb10
    clear HT_9 rs_9 rm_9 rx_9 ry_9 rz hbs9 hb10
    clear rs_10
    clear rz_10
    go_wp2_with fail
    refine (rmul_any ux uy X Y _ rx_10 ry_10 hXB.out hYB.out).mono ?_
    rintro e w11 ⟨uz, rfl, rz, hb11⟩
    have HT_11 := hide (HT_10.out.below hb11)
    have rm_11 := rm_10.below hb11
    have rx_11 := rx_10.below hb11
    have ry_11 := ry_10.below hb11
    have hbs11 := below_then hbs10 hb11
    clear HT_10 rm_10 rx_10 ry_10 hbs10 hb11
    go_wp2_with fail
    refine (is_R um uz mp mq (X * Y) _ HM.out rm_11 rz hPb.out).mono ?_
    rintro e w12 ⟨rfl, hb12⟩
    have HT_12 := hide (HT_11.out.below hb12)
    have rm_12 := rm_11.below hb12
    have rx_12 := rx_11.below hb12
    have ry_12 := ry_11.below hb12
    have rz_12 := rz.below hb12
    have hbs12 := below_then hbs11 hb12
    clear HT_11 rm_11 rx_11 ry_11 rz hbs11 hb12
    clear rm_12
    clear rz_12
    go_wp2_with fail
    refine (told1_any _ HT_12.out).mono ?_
    rintro e w13 ⟨rfl, hb13⟩
    have HT_13 := hide (HT_12.out.below hb13)
    have rx_13 := rx_12.below hb13
    have ry_13 := ry_12.below hb13
    have hbs13 := below_then hbs12 hb13
    clear HT_12 rx_12 ry_12 hbs12 hb13
    clear HT_13
    go_wp2_with fail
    go_ret
    exact ⟨rfl, hbs13⟩
  · have hle : Hid (Y ≤ X) := Nat.not_lt.1 hle0
    have hq0 : ¬ q < 0 := fun h => hle0 (hlt.2 h)
    have hD0 : Hid ((X - Y, 0) = capF (X - Y)) := (capF_lt (Nat.lt_of_le_of_lt (Nat.sub_le X Y) hXl.out)).symm
    clear hle0 hlt
    have hbz : Below w.heap.size w w := Below.refl _ _
    have hqs : 0 ≤ q := by omega
    go_enter Tryd.func10, Tryd.ntmps10
    go_wp2_with (go_at_call 18; first | (with_reducible refine (hfa _ h).mono ?_; rintro e w' ⟨rfl, rfl⟩) | (with_reducible refine (hfb _ k).mono ?_; rintro e w' ⟨rfl, rfl⟩))
    refine (addL _ _ X Y _ ra rb hXl.out hYl.out).mono ?_
    rintro e w1 ⟨⟨sp, sq, us, hS, rfl, rs⟩, hb1⟩
    have ra_1 := ra.below hb1
    have rb_1 := rb.below hb1
    have HT_1 := hide (HT.out.below hb1)
    have hbs1 := below_then hbz hb1
    clear ra rb HT hbz hb1
    have HS := hide hS
    clear hS
    go_wp2_with fail
    refine (subW _ _ X Y _ ra_1 rb_1 hXl.out hYl.out hle.out).mono ?_
    rintro e w2 ⟨⟨ud, rfl, rd⟩, hb2⟩
    have ra_2 := ra_1.below hb2
    have rb_2 := rb_1.below hb2
    have HT_2 := hide (HT_1.out.below hb2)
    have rs_2 := rs.below hb2
    have hbs2 := below_then hbs1 hb2
    clear ra_1 rb_1 HT_1 rs hbs1 hb2
    go_wp2_with fail
    refine (mulL _ _ X Y _ ra_2 rb_2 hXl.out hYl.out).mono ?_
    rintro e w3 ⟨⟨mp, mq, um, hM, rfl, rm⟩, hb3⟩
    have ra_3 := ra_2.below hb3
    have rb_3 := rb_2.below hb3
    have HT_3 := hide (HT_2.out.below hb3)
    have rs_3 := rs_2.below hb3
    have rd_3 := rd.below hb3
    have hbs3 := below_then hbs2 hb3
    clear ra_2 rb_2 HT_2 rs_2 rd hbs2 hb3
    have HM := hide hM
    clear hM
    go_wp2_with (go_at_call 26; first | (with_reducible refine (rmayV u X _ ra_3 hXl.out).mono ?_; rintro e w' ⟨rfl, rfl⟩) | (with_reducible refine (rmayV v Y _ rb_3 hYl.out).mono ?_; rintro e w' ⟨rfl, rfl⟩))
    refine (fromV u X _ ra_3 hXf.out).mono ?_
    rintro e w4 ⟨ux, rfl, rx, hb4⟩
    have ra_4 := ra_3.below hb4
    have rb_4 := rb_3.below hb4
    have HT_4 := hide (HT_3.out.below hb4)
    have rs_4 := rs_3.below hb4
    have rd_4 := rd_3.below hb4
    have rm_4 := rm.below hb4
    have hbs4 := below_then hbs3 hb4
    clear ra_3 rb_3 HT_3 rs_3 rd_3 rm hbs3 hb4
    go_wp2_with fail
    refine (fromV v Y _ rb_4 hYf.out).mono ?_
    rintro e w5 ⟨uy, rfl, ry, hb5⟩
    have ra_5 := ra_4.below hb5
    have rb_5 := rb_4.below hb5
    have HT_5 := hide (HT_4.out.below hb5)
    have rs_5 := rs_4.below hb5
    have rd_5 := rd_4.below hb5
    have rm_5 := rm_4.below hb5
    have rx_5 := rx.below hb5
    have hbs5 := below_then hbs4 hb5
    clear ra_4 rb_4 HT_4 rs_4 rd_4 rm_4 rx hbs4 hb5
    go_wp2_with fail
    refine (hC3 ux uy _ rx_5 ry).mono ?_
    rintro e w6 ⟨rfl, hb6⟩
    have ra_6 := ra_5.below hb6
    have rb_6 := rb_5.below hb6
    have HT_6 := hide (HT_5.out.below hb6)
    have rs_6 := rs_5.below hb6
    have rd_6 := rd_5.below hb6
    have rm_6 := rm_5.below hb6
    have rx_6 := rx_5.below hb6
    have ry_6 := ry.below hb6
    have hbs6 := below_then hbs5 hb6
    clear ra_5 rb_5 HT_5 rs_5 rd_5 rm_5 rx_5 ry hbs5 hb6
    go_wp2_with fail
    refine (hC1 _ ra_6 rb_6).mono ?_
    rintro e w7 ⟨rfl, hb7⟩
    have ra_7 := ra_6.below hb7
    have rb_7 := rb_6.below hb7
    have HT_7 := hide (HT_6.out.below hb7)
    have rs_7 := rs_6.below hb7
    have rd_7 := rd_6.below hb7
    have rm_7 := rm_6.below hb7
    have rx_7 := rx_6.below hb7
    have ry_7 := ry_6.below hb7
    have hbs7 := below_then hbs6 hb7
    clear ra_6 rb_6 HT_6 rs_6 rd_6 rm_6 rx_6 ry_6 hbs6 hb7
    go_wp2_with fail
    refine (hC2 _ rb_7 ra_7).mono ?_
    rintro e w8 ⟨rfl, hb8⟩
    have ra_8 := ra_7.below hb8
    have rb_8 := rb_7.below hb8
    have HT_8 := hide (HT_7.out.below hb8)
    have rs_8 := rs_7.below hb8
    have rd_8 := rd_7.below hb8
    have rm_8 := rm_7.below hb8
    have rx_8 := rx_7.below hb8
    have ry_8 := ry_7.below hb8
    have hbs8 := below_then hbs7 hb8
    clear ra_7 rb_7 HT_7 rs_7 rd_7 rm_7 rx_7 ry_7 hbs7 hb8
    clear ra_8
    clear rb_8
    go_wp2_with fail
    refine (radd_any ux uy X Y _ rx_8 ry_8 hXB.out hYB.out).mono ?_
    rintro e w9 ⟨uz, rfl, rz, hb9⟩
    have HT_9 := hide (HT_8.out.below hb9)
    have rs_9 := rs_8.below hb9
    have rd_9 := rd_8.below hb9
    have rm_9 := rm_8.below hb9
    have rx_9 := rx_8.below hb9
    have ry_9 := ry_8.below hb9
    have hbs9 := below_then hbs8 hb9
    clear HT_8 rs_8 rd_8 rm_8 rx_8 ry_8 hbs8 hb9
    go_wp2_with fail
    refine (is_R us uz sp sq (X + Y) _ HS.out rs_9 rz hSb.out).mono ?_
    rintro e w10 ⟨rfl, hb10⟩
    have HT_10 := hide (HT_9.out.below hb10)
    have rs_10 := rs_9.below hb10
    have rd_10 := rd_9.below hb10
    have rm_10 := rm_9.below hb10
    have rx_10 := rx_9.below hb10
    have ry_10 := ry_9.below hb10
    have rz_10 := rz.below hb10
    have hbs10 := below_then hbs9 hb10
    clear HT_9 rs_9 rd_9 rm_9 rx_9 ry_9 rz hbs9 hb10
    clear rs_10
    clear rz_10
    go_wp2_with fail
    refine (rmul_any ux uy X Y _ rx_10 ry_10 hXB.out hYB.out).mono ?_
    rintro e w11 ⟨uz, rfl, rz, hb11⟩
    have HT_11 := hide (HT_10.out.below hb11)
    have rd_11 := rd_10.below hb11
    have rm_11 := rm_10.below hb11
    have rx_11 := rx_10.below hb11
    have ry_11 := ry_10.below hb11
    have hbs11 := below_then hbs10 hb11
    clear HT_10 rd_10 rm_10 rx_10 ry_10 hbs10 hb11
    go_wp2_with fail
    refine (is_R um uz mp mq (X * Y) _ HM.out rm_11 rz hPb.out).mono ?_
    rintro e w12 ⟨rfl, hb12⟩
    have HT_12 := hide (HT_11.out.below hb12)
    have rd_12 := rd_11.below hb12
    have rm_12 := rm_11.below hb12
    have rx_12 := rx_11.below hb12
    have ry_12 := ry_11.below hb12
    have rz_12 := rz.below hb12
    have hbs12 := below_then hbs11 hb12
    clear HT_11 rd_11 rm_11 rx_11 ry_11 rz hbs11 hb12
    clear rm_12
    clear rz_12
    go_wp2_with fail
    refine (told1_any _ HT_12.out).mono ?_
    rintro e w13 ⟨rfl, hb13⟩
    have HT_13 := hide (HT_12.out.below hb13)
    have rd_13 := rd_12.below hb13
    have rx_13 := rx_12.below hb13
    have ry_13 := ry_12.below hb13
    have hbs13 := below_then hbs12 hb13
    clear HT_12 rd_12 rx_12 ry_12 hbs12 hb13
    clear HT_13
    go_wp2_with fail
    refine (rsub_any ux uy X Y _ rx_13 ry_13 hXB.out hle.out).mono ?_
    rintro e w14 ⟨uz, rfl, rz, hb14⟩
    have rd_14 := rd_13.below hb14
    have rx_14 := rx_13.below hb14
    have ry_14 := ry_13.below hb14
    have hbs14 := below_then hbs13 hb14
    clear rd_13 rx_13 ry_13 hbs13 hb14
    go_wp2_with fail
    refine (is_R ud uz (X - Y) 0 (X - Y) _ hD0.out rd_14 rz hDb.out).mono ?_
    rintro e w15 ⟨rfl, hb15⟩
    have rd_15 := rd_14.below hb15
    have rx_15 := rx_14.below hb15
    have ry_15 := ry_14.below hb15
    have rz_15 := rz.below hb15
    have hbs15 := below_then hbs14 hb15
    clear rd_14 rx_14 ry_14 rz hbs14 hb15
    go_wp2_with fail
    go_ret
    exact ⟨rfl, hbs15⟩

set_option maxRecDepth 100000 in
set_option maxHeartbeats 4000000 in
theorem natAsks_any (A : Option Addr) (n c : Nat) (xs : List Nat) (B : Option Addr) (m d : Nat) (ys : List Nat) (w : World)
    (h : RdN .u64 w A n c xs) (k : RdN .u64 w B m d ys) (hl : Lim BB xs) (kl : Lim BB ys) (hT : TabAt w) :
    Calls Tryd.prog 10 #[.slice A n c, .slice B m d] w fun x w' => x = .returned (.bool true) ∧ Below w.heap.size w w' := by
  by_cases ha : (n : Int) ≤ 70
  · by_cases hb : (m : Int) ≤ 70
    · cases hm : (mayN xs && mayN ys)
      · exact natAsks_bad A n c xs B m d ys w h k hl kl hT ha hb hm
      · have hm2 := Bool.and_eq_true_iff.1 hm
        exact natAsks_good _ _ (val BB xs) (val BB ys) A n c xs B m d ys w rfl rfl h k hT ha hb (R64.of_may h hl hm2.1) (R64.of_may k kl hm2.2) (may_lt hl hm2.1) (may_lt kl hm2.2)
    · have HT := hide hT
      clear hT
      have hfa := few_any A n c xs w h
      have hfb := few_any B m d ys w k
      rw [few_yes ha] at hfa
      rw [few_no hb] at hfb
      clear ha hb
      go_enter Tryd.func10, Tryd.ntmps10
      go_wp2_with (go_at_call 18; first | (with_reducible refine hfa.mono ?_; rintro e w' ⟨rfl, rfl⟩) | (with_reducible refine hfb.mono ?_; rintro e w' ⟨rfl, rfl⟩))
      refine (told1_any _ HT.out).mono ?_
      rintro e w1 ⟨rfl, hb1⟩
      go_wp2
      go_ret
      exact ⟨rfl, hb1⟩
  · have HT := hide hT
    clear hT
    have hfa := few_any A n c xs w h
    rw [few_no ha] at hfa
    clear ha
    go_enter Tryd.func10, Tryd.ntmps10
    go_wp2_with (go_at_call 18; (with_reducible refine hfa.mono ?_; rintro e w' ⟨rfl, rfl⟩))
    refine (told1_any _ HT.out).mono ?_
    rintro e w1 ⟨rfl, hb1⟩
    go_wp2
    go_ret
    exact ⟨rfl, hb1⟩
end Go.Proofs.YtdnknokhcliikaaDoor
