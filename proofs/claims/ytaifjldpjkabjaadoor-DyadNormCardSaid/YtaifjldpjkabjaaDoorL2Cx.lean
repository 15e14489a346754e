/- sluicewaylaw2: the walk of DyadOrder. Printed by wip/mk_L2C.py. sluicewaylaw2: the walk of DyadFar. Printed by wip/mk_L2D.py. -/
import Derived.Test.YtaifjldpjkabjaaDoorL2Ax
import Derived.Deep.RegionHeld3
import Derived.Deep.DrawnRows
namespace Go.Proofs.YtaifjldpjkabjaaDoor
open Go.RowKit Pl
attribute [local go_sem ↓] Go.wp_at_zero Go.wp_at_succ

theorem cmpI_range (x y : Int) : -1 ≤ cmpI x y ∧ cmpI x y ≤ 1 := by unfold cmpI; split <;> (try split) <;> omega
theorem cmpI_anti (x y : Int) : cmpI y x = - cmpI x y := by
  unfold cmpI
  rcases Int.lt_trichotomy x y with h | h | h
  · rw [if_pos h, if_neg (by omega), if_pos h]; rfl
  · rw [if_neg (by omega), if_neg (by omega), if_neg (by omega), if_neg (by omega)]; rfl
  · rw [if_pos h, if_neg (by omega), if_pos h]
theorem cmpI_neg (x y : Int) : cmpI (-y) (-x) = cmpI x y := by
  unfold cmpI
  rcases Int.lt_trichotomy x y with h | h | h
  · rw [if_pos h, if_pos (by omega)]
  · rw [if_neg (by omega), if_neg (by omega), if_neg (by omega), if_neg (by omega)]
  · rw [if_neg (by omega), if_pos (by omega), if_neg (by omega), if_pos h]
theorem cmpI_sub (x y : Int) : cmpI (x - y) 0 = cmpI x y := by
  unfold cmpI
  rcases Int.lt_trichotomy x y with h | h | h
  · rw [if_pos h, if_pos (by omega)]
  · rw [if_neg (by omega), if_neg (by omega), if_neg (by omega), if_neg (by omega)]
  · rw [if_neg (by omega), if_pos (by omega), if_neg (by omega), if_pos h]
theorem cmpI_zero (x y : Int) : (cmpI x y == 0) = decide (x = y) := by
  unfold cmpI
  rcases Int.lt_trichotomy x y with h | h | h
  · rw [if_pos h, decide_eq_false (by omega)]; rfl
  · rw [if_neg (by omega), if_neg (by omega), decide_eq_true h]; rfl
  · rw [if_neg (by omega), if_pos h, decide_eq_false (by omega)]; rfl
section
variable {a b : Dy} (ha : mayD a = true) (la : Lim BB a.m) (hb : mayD b = true) (lb : Lim BB b.m)
include ha la hb lb
theorem order_anti : cmpD b a = - cmpD a b := by rw [cmpD_Z hb lb ha la, cmpD_Z ha la hb lb, cmpI_anti]
theorem order_same : sameD a b = (cmpD a b == 0) := by rw [sameD_Z ha la hb lb, cmpD_Z ha la hb lb, cmpI_zero]
theorem order_neg : cmpD (negS b) (negS a) = cmpD a b := by
  rw [cmpD_Z (negS_may hb) (negS_lim lb) (negS_may ha) (negS_lim la), cmpD_Z ha la hb lb, ZD_neg ha, ZD_neg hb, cmpI_neg]
theorem order_range : -1 ≤ cmpD a b ∧ cmpD a b ≤ 1 := by rw [cmpD_Z ha la hb lb]; exact cmpI_range _ _
theorem order_sub {d : Dy} (h : twoS a b (subS a b) = (d, 0)) : signD d = cmpD a b := by
  rw [twoS_of ha hb, subS_Z ha la hb lb] at h
  obtain ⟨h1, _, h3⟩ := fitZ_post h
  rw [signD_cmp h1, h3, cmpD_Z ha la hb lb, cmpI_sub]
theorem order_shift {x y : Dy} {n : Int} (hx : shiftS a n = (x, 0)) (hy : shiftS b n = (y, 0)) : cmpD x y = cmpD a b := by
  obtain ⟨x1, x2, x3⟩ := shiftS_post ha la hx
  obtain ⟨y1, y2, y3⟩ := shiftS_post hb lb hy
  have hS : (0 : Int) < ((2 ^ TT : Nat) : Int) := by have := Nat.two_pow_pos TT; omega
  have hR : (0 : Int) < ((2 ^ (n + (TT : Int)).toNat : Nat) : Int) := by have := Nat.two_pow_pos (n + (TT : Int)).toNat; omega
  rw [cmpD_Z x1 x2 y1 y2, cmpD_Z ha la hb lb]
  refine cmpI_scale hS hR ?_ ?_
  · rcases x3 with ⟨h0, rfl⟩ | ⟨_, _, h⟩
    · rw [ZD_nil h0, Int.zero_mul, Int.zero_mul]
    · exact h
  · rcases y3 with ⟨h0, rfl⟩ | ⟨_, _, h⟩
    · rw [ZD_nil h0, Int.zero_mul, Int.zero_mul]
    · exact h
end

set_option maxRecDepth 100000 in
set_option maxHeartbeats 8000000 in
theorem dyadOrder_any (u v : Value) (a b : Dy) (j : Int) (w : World) (h : RdD w u a) (k : RdD w v b) (hT : TabAt w) :
    Calls Tryd.prog 8 #[u, v, .int .i64 j] w fun x w' => x = .returned (.bool true) ∧ Below w.heap.size w w' := by
  have r_a := h
  have r_b := k
  have la := hide h.lim
  have lb := hide k.lim
  obtain ⟨A_a, n_a, c_a, rfl, _⟩ := h
  obtain ⟨A_b, n_b, c_b, rfl, _⟩ := k
  have HT := hide hT
  clear hT
  cases hf_a : decide (a.m.length ≤ 70)
  · skip
    obtain ⟨b_a, b_b, hb0⟩ := box_2 w [.bool a.neg, .slice A_a n_a c_a, .int .i64 a.e] [.bool b.neg, .slice A_b n_b c_b, .int .i64 b.e] 24 24
    have r_a := r_a.below hb0
    have r_b := r_b.below hb0
    have HT := hide (HT.out.below hb0)
    go_enter Tryd.func8, Tryd.ntmps8
    go_upto_region 1 with fail
    generalize (w.alloc (.cells #[.bool a.neg, .slice A_a n_a c_a, .int .i64 a.e] 24)).alloc (.cells #[.bool b.neg, .slice A_b n_b c_b, .int .i64 b.e] 24) = w0 at *
    have q_a0 := b_a.cell 0 rfl
    have q_a1 := b_a.cell 1 rfl
    have q_a2 := b_a.cell 2 rfl
    go_wp2_with fail
    clear q_a0 q_a1 q_a2
    with_reducible refine (few2_any _ a _ r_a).mono ?_
    rw [hf_a]
    rintro e w1 ⟨rfl, hb1⟩
    have r_a_1 := r_a.below hb1
    have b_a_1 := b_a.keep hb1
    have r_b_1 := r_b.below hb1
    have b_b_1 := b_b.keep hb1
    have HT_1 := hide (HT.out.below hb1)
    have hbs1 := below_then hb0 hb1
    clear r_a b_a r_b b_b HT hb0 hb1
    go_wp2_with fail
    with_reducible refine (told2_any _ HT_1.out).mono ?_
    rintro e w2 ⟨rfl, hb2⟩
    have r_a_2 := r_a_1.below hb2
    have b_a_2 := b_a_1.keep hb2
    have r_b_2 := r_b_1.below hb2
    have b_b_2 := b_b_1.keep hb2
    have HT_2 := hide (HT_1.out.below hb2)
    have hbs2 := below_then hbs1 hb2
    clear r_a_1 b_a_1 r_b_1 b_b_1 HT_1 hbs1 hb2
    go_wp2_with fail
    go_ret
    exact ⟨rfl, hbs2⟩
  cases hf_b : decide (b.m.length ≤ 70)
  · skip
    obtain ⟨b_a, b_b, hb0⟩ := box_2 w [.bool a.neg, .slice A_a n_a c_a, .int .i64 a.e] [.bool b.neg, .slice A_b n_b c_b, .int .i64 b.e] 24 24
    have r_a := r_a.below hb0
    have r_b := r_b.below hb0
    have HT := hide (HT.out.below hb0)
    go_enter Tryd.func8, Tryd.ntmps8
    go_upto_region 1 with fail
    generalize (w.alloc (.cells #[.bool a.neg, .slice A_a n_a c_a, .int .i64 a.e] 24)).alloc (.cells #[.bool b.neg, .slice A_b n_b c_b, .int .i64 b.e] 24) = w0 at *
    have q_a0 := b_a.cell 0 rfl
    have q_a1 := b_a.cell 1 rfl
    have q_a2 := b_a.cell 2 rfl
    go_wp2_with fail
    clear q_a0 q_a1 q_a2
    with_reducible refine (few2_any _ a _ r_a).mono ?_
    rw [hf_a]
    rintro e w1 ⟨rfl, hb1⟩
    have r_a_1 := r_a.below hb1
    have b_a_1 := b_a.keep hb1
    have r_b_1 := r_b.below hb1
    have b_b_1 := b_b.keep hb1
    have HT_1 := hide (HT.out.below hb1)
    have hbs1 := below_then hb0 hb1
    clear r_a b_a r_b b_b HT hb0 hb1
    have q_b0 := b_b_1.cell 0 rfl
    have q_b1 := b_b_1.cell 1 rfl
    have q_b2 := b_b_1.cell 2 rfl
    go_wp2_with fail
    clear q_b0 q_b1 q_b2
    with_reducible refine (few2_any _ b _ r_b_1).mono ?_
    rw [hf_b]
    rintro e w2 ⟨rfl, hb2⟩
    have r_a_2 := r_a_1.below hb2
    have b_a_2 := b_a_1.keep hb2
    have r_b_2 := r_b_1.below hb2
    have b_b_2 := b_b_1.keep hb2
    have HT_2 := hide (HT_1.out.below hb2)
    have hbs2 := below_then hbs1 hb2
    clear r_a_1 b_a_1 r_b_1 b_b_1 HT_1 hbs1 hb2
    go_wp2_with fail
    with_reducible refine (told2_any _ HT_2.out).mono ?_
    rintro e w3 ⟨rfl, hb3⟩
    have r_a_3 := r_a_2.below hb3
    have b_a_3 := b_a_2.keep hb3
    have r_b_3 := r_b_2.below hb3
    have b_b_3 := b_b_2.keep hb3
    have HT_3 := hide (HT_2.out.below hb3)
    have hbs3 := below_then hbs2 hb3
    clear r_a_2 b_a_2 r_b_2 b_b_2 HT_2 hbs2 hb3
    go_wp2_with fail
    go_ret
    exact ⟨rfl, hbs3⟩
  cases hm_a : mayD a
  · skip
    obtain ⟨b_a, b_b, hb0⟩ := box_2 w [.bool a.neg, .slice A_a n_a c_a, .int .i64 a.e] [.bool b.neg, .slice A_b n_b c_b, .int .i64 b.e] 24 24
    have r_a := r_a.below hb0
    have r_b := r_b.below hb0
    have HT := hide (HT.out.below hb0)
    go_enter Tryd.func8, Tryd.ntmps8
    go_upto_region 1 with fail
    generalize (w.alloc (.cells #[.bool a.neg, .slice A_a n_a c_a, .int .i64 a.e] 24)).alloc (.cells #[.bool b.neg, .slice A_b n_b c_b, .int .i64 b.e] 24) = w0 at *
    have q_a0 := b_a.cell 0 rfl
    have q_a1 := b_a.cell 1 rfl
    have q_a2 := b_a.cell 2 rfl
    go_wp2_with fail
    clear q_a0 q_a1 q_a2
    with_reducible refine (few2_any _ a _ r_a).mono ?_
    rw [hf_a]
    rintro e w1 ⟨rfl, hb1⟩
    have r_a_1 := r_a.below hb1
    have b_a_1 := b_a.keep hb1
    have r_b_1 := r_b.below hb1
    have b_b_1 := b_b.keep hb1
    have HT_1 := hide (HT.out.below hb1)
    have hbs1 := below_then hb0 hb1
    clear r_a b_a r_b b_b HT hb0 hb1
    have q_b0 := b_b_1.cell 0 rfl
    have q_b1 := b_b_1.cell 1 rfl
    have q_b2 := b_b_1.cell 2 rfl
    go_wp2_with fail
    clear q_b0 q_b1 q_b2
    with_reducible refine (few2_any _ b _ r_b_1).mono ?_
    rw [hf_b]
    rintro e w2 ⟨rfl, hb2⟩
    have r_a_2 := r_a_1.below hb2
    have b_a_2 := b_a_1.keep hb2
    have r_b_2 := r_b_1.below hb2
    have b_b_2 := b_b_1.keep hb2
    have HT_2 := hide (HT_1.out.below hb2)
    have hbs2 := below_then hbs1 hb2
    clear r_a_1 b_a_1 r_b_1 b_b_1 HT_1 hbs1 hb2
    have q_a0 := b_a_2.cell 0 rfl
    have q_a1 := b_a_2.cell 1 rfl
    have q_a2 := b_a_2.cell 2 rfl
    go_wp2_with fail
    clear q_a0 q_a1 q_a2
    with_reducible refine (mayD_any _ a _ r_a_2).mono ?_
    rw [hm_a]
    rintro e w3 ⟨rfl, hb3⟩
    have r_a_3 := r_a_2.below hb3
    have b_a_3 := b_a_2.keep hb3
    have r_b_3 := r_b_2.below hb3
    have b_b_3 := b_b_2.keep hb3
    have HT_3 := hide (HT_2.out.below hb3)
    have hbs3 := below_then hbs2 hb3
    clear r_a_2 b_a_2 r_b_2 b_b_2 HT_2 hbs2 hb3
    go_wp2_with fail
    with_reducible refine (told2_any _ HT_3.out).mono ?_
    rintro e w4 ⟨rfl, hb4⟩
    have r_a_4 := r_a_3.below hb4
    have b_a_4 := b_a_3.keep hb4
    have r_b_4 := r_b_3.below hb4
    have b_b_4 := b_b_3.keep hb4
    have HT_4 := hide (HT_3.out.below hb4)
    have hbs4 := below_then hbs3 hb4
    clear r_a_3 b_a_3 r_b_3 b_b_3 HT_3 hbs3 hb4
    go_wp2_with fail
    go_ret
    exact ⟨rfl, hbs4⟩
  cases hm_b : mayD b
  · skip
    obtain ⟨b_a, b_b, hb0⟩ := box_2 w [.bool a.neg, .slice A_a n_a c_a, .int .i64 a.e] [.bool b.neg, .slice A_b n_b c_b, .int .i64 b.e] 24 24
    have r_a := r_a.below hb0
    have r_b := r_b.below hb0
    have HT := hide (HT.out.below hb0)
    go_enter Tryd.func8, Tryd.ntmps8
    go_upto_region 1 with fail
    generalize (w.alloc (.cells #[.bool a.neg, .slice A_a n_a c_a, .int .i64 a.e] 24)).alloc (.cells #[.bool b.neg, .slice A_b n_b c_b, .int .i64 b.e] 24) = w0 at *
    have q_a0 := b_a.cell 0 rfl
    have q_a1 := b_a.cell 1 rfl
    have q_a2 := b_a.cell 2 rfl
    go_wp2_with fail
    clear q_a0 q_a1 q_a2
    with_reducible refine (few2_any _ a _ r_a).mono ?_
    rw [hf_a]
    rintro e w1 ⟨rfl, hb1⟩
    have r_a_1 := r_a.below hb1
    have b_a_1 := b_a.keep hb1
    have r_b_1 := r_b.below hb1
    have b_b_1 := b_b.keep hb1
    have HT_1 := hide (HT.out.below hb1)
    have hbs1 := below_then hb0 hb1
    clear r_a b_a r_b b_b HT hb0 hb1
    have q_b0 := b_b_1.cell 0 rfl
    have q_b1 := b_b_1.cell 1 rfl
    have q_b2 := b_b_1.cell 2 rfl
    go_wp2_with fail
    clear q_b0 q_b1 q_b2
    with_reducible refine (few2_any _ b _ r_b_1).mono ?_
    rw [hf_b]
    rintro e w2 ⟨rfl, hb2⟩
    have r_a_2 := r_a_1.below hb2
    have b_a_2 := b_a_1.keep hb2
    have r_b_2 := r_b_1.below hb2
    have b_b_2 := b_b_1.keep hb2
    have HT_2 := hide (HT_1.out.below hb2)
    have hbs2 := below_then hbs1 hb2
    clear r_a_1 b_a_1 r_b_1 b_b_1 HT_1 hbs1 hb2
    have q_a0 := b_a_2.cell 0 rfl
    have q_a1 := b_a_2.cell 1 rfl
    have q_a2 := b_a_2.cell 2 rfl
    go_wp2_with fail
    clear q_a0 q_a1 q_a2
    with_reducible refine (mayD_any _ a _ r_a_2).mono ?_
    rw [hm_a]
    rintro e w3 ⟨rfl, hb3⟩
    have r_a_3 := r_a_2.below hb3
    have b_a_3 := b_a_2.keep hb3
    have r_b_3 := r_b_2.below hb3
    have b_b_3 := b_b_2.keep hb3
    have HT_3 := hide (HT_2.out.below hb3)
    have hbs3 := below_then hbs2 hb3
    clear r_a_2 b_a_2 r_b_2 b_b_2 HT_2 hbs2 hb3
    have q_b0 := b_b_3.cell 0 rfl
    have q_b1 := b_b_3.cell 1 rfl
    have q_b2 := b_b_3.cell 2 rfl
    go_wp2_with fail
    clear q_b0 q_b1 q_b2
    with_reducible refine (mayD_any _ b _ r_b_3).mono ?_
    rw [hm_b]
    rintro e w4 ⟨rfl, hb4⟩
    have r_a_4 := r_a_3.below hb4
    have b_a_4 := b_a_3.keep hb4
    have r_b_4 := r_b_3.below hb4
    have b_b_4 := b_b_3.keep hb4
    have HT_4 := hide (HT_3.out.below hb4)
    have hbs4 := below_then hbs3 hb4
    clear r_a_3 b_a_3 r_b_3 b_b_3 HT_3 hbs3 hb4
    go_wp2_with fail
    with_reducible refine (told2_any _ HT_4.out).mono ?_
    rintro e w5 ⟨rfl, hb5⟩
    have r_a_5 := r_a_4.below hb5
    have b_a_5 := b_a_4.keep hb5
    have r_b_5 := r_b_4.below hb5
    have b_b_5 := b_b_4.keep hb5
    have HT_5 := hide (HT_4.out.below hb5)
    have hbs5 := below_then hbs4 hb5
    clear r_a_4 b_a_4 r_b_4 b_b_4 HT_4 hbs4 hb5
    go_wp2_with fail
    go_ret
    exact ⟨rfl, hbs5⟩
  obtain ⟨b_a, b_b, hb0⟩ := box_2 w [.bool a.neg, .slice A_a n_a c_a, .int .i64 a.e] [.bool b.neg, .slice A_b n_b c_b, .int .i64 b.e] 24 24
  have r_a := r_a.below hb0
  have r_b := r_b.below hb0
  have HT := hide (HT.out.below hb0)
  go_enter Tryd.func8, Tryd.ntmps8
  go_upto_region 1 with fail
  generalize (w.alloc (.cells #[.bool a.neg, .slice A_a n_a c_a, .int .i64 a.e] 24)).alloc (.cells #[.bool b.neg, .slice A_b n_b c_b, .int .i64 b.e] 24) = w0 at *
  have q_a0 := b_a.cell 0 rfl
  have q_a1 := b_a.cell 1 rfl
  have q_a2 := b_a.cell 2 rfl
  go_wp2_with fail
  clear q_a0 q_a1 q_a2
  with_reducible refine (few2_any _ a _ r_a).mono ?_
  rw [hf_a]
  rintro e w1 ⟨rfl, hb1⟩
  have r_a_1 := r_a.below hb1
  have b_a_1 := b_a.keep hb1
  have r_b_1 := r_b.below hb1
  have b_b_1 := b_b.keep hb1
  have HT_1 := hide (HT.out.below hb1)
  have hbs1 := below_then hb0 hb1
  clear r_a b_a r_b b_b HT hb0 hb1
  have q_b0 := b_b_1.cell 0 rfl
  have q_b1 := b_b_1.cell 1 rfl
  have q_b2 := b_b_1.cell 2 rfl
  go_wp2_with fail
  clear q_b0 q_b1 q_b2
  with_reducible refine (few2_any _ b _ r_b_1).mono ?_
  rw [hf_b]
  rintro e w2 ⟨rfl, hb2⟩
  have r_a_2 := r_a_1.below hb2
  have b_a_2 := b_a_1.keep hb2
  have r_b_2 := r_b_1.below hb2
  have b_b_2 := b_b_1.keep hb2
  have HT_2 := hide (HT_1.out.below hb2)
  have hbs2 := below_then hbs1 hb2
  clear r_a_1 b_a_1 r_b_1 b_b_1 HT_1 hbs1 hb2
  have q_a0 := b_a_2.cell 0 rfl
  have q_a1 := b_a_2.cell 1 rfl
  have q_a2 := b_a_2.cell 2 rfl
  go_wp2_with fail
  clear q_a0 q_a1 q_a2
  with_reducible refine (mayD_any _ a _ r_a_2).mono ?_
  rw [hm_a]
  rintro e w3 ⟨rfl, hb3⟩
  have r_a_3 := r_a_2.below hb3
  have b_a_3 := b_a_2.keep hb3
  have r_b_3 := r_b_2.below hb3
  have b_b_3 := b_b_2.keep hb3
  have HT_3 := hide (HT_2.out.below hb3)
  have hbs3 := below_then hbs2 hb3
  clear r_a_2 b_a_2 r_b_2 b_b_2 HT_2 hbs2 hb3
  have q_b0 := b_b_3.cell 0 rfl
  have q_b1 := b_b_3.cell 1 rfl
  have q_b2 := b_b_3.cell 2 rfl
  go_wp2_with fail
  clear q_b0 q_b1 q_b2
  with_reducible refine (mayD_any _ b _ r_b_3).mono ?_
  rw [hm_b]
  rintro e w4 ⟨rfl, hb4⟩
  have r_a_4 := r_a_3.below hb4
  have b_a_4 := b_a_3.keep hb4
  have r_b_4 := r_b_3.below hb4
  have b_b_4 := b_b_3.keep hb4
  have HT_4 := hide (HT_3.out.below hb4)
  have hbs4 := below_then hbs3 hb4
  clear r_a_3 b_a_3 r_b_3 b_b_3 HT_3 hbs3 hb4
  have hla : a.m.length ≤ 1000000 := by have := (mayD_limbs hm_a).2.1; omega
  have hlb : b.m.length ≤ 1000000 := by have := (mayD_limbs hm_b).2.1; omega
  obtain ⟨q, hq⟩ : ∃ q, q = cmpD a b := ⟨_, rfl⟩
  have HQ := hide hq
  have HA : Hid (cmpD b a = -q) := by rw [hq]; exact order_anti hm_a la.out hm_b lb.out
  have HS : Hid (sameD a b = (q == 0)) := by rw [hq]; exact order_same hm_a la.out hm_b lb.out
  have HN : Hid (cmpD (negS b) (negS a) = q) := by rw [hq]; exact order_neg hm_a la.out hm_b lb.out
  obtain ⟨q1, q2⟩ : -1 ≤ q ∧ q ≤ 1 := by rw [hq]; exact order_range hm_a la.out hm_b lb.out
  clear hq
  have q_a0 := b_a_4.cell 0 rfl
  have q_a1 := b_a_4.cell 1 rfl
  have q_a2 := b_a_4.cell 2 rfl
  have q_b0 := b_b_4.cell 0 rfl
  have q_b1 := b_b_4.cell 1 rfl
  have q_b2 := b_b_4.cell 2 rfl
  go_wp2_with fail
  clear q_a0 q_a1 q_a2 q_b0 q_b1 q_b2
  with_reducible refine (cmpD_any _ _ a b _ r_a_4 r_b_4).mono ?_
  rw [← HQ.out]
  rintro e w5 ⟨rfl, hb5⟩
  have r_a_5 := r_a_4.below hb5
  have b_a_5 := b_a_4.keep hb5
  have r_b_5 := r_b_4.below hb5
  have b_b_5 := b_b_4.keep hb5
  have HT_5 := hide (HT_4.out.below hb5)
  have hbs5 := below_then hbs4 hb5
  clear r_a_4 b_a_4 r_b_4 b_b_4 HT_4 hbs4 hb5
  have hwq : IntKind.i64.wrap (-q) = -q := IntWalk.i64_in _ (by omega)
  have eqq : (-q != -q) = false := by simp
  have eq0 : ((q == 0) != (q == 0)) = false := by simp
  have eq1 : (q != q) = false := by simp
  have e_a0 := b_a_5.cellE b_a_5.lt 0 rfl
  have e_a1 := b_a_5.cellE b_a_5.lt 1 rfl
  have e_a2 := b_a_5.cellE b_a_5.lt 2 rfl
  have e_b0 := b_b_5.cellE b_b_5.lt 0 rfl
  have e_b1 := b_b_5.cellE b_b_5.lt 1 rfl
  have e_b2 := b_b_5.cellE b_b_5.lt 2 rfl
  go_upto_region 4 with fail
  go_region_held3 (fun w' => Below w5.heap.size w5 w') (first | exact (Below.refl _ _).drew | exact below_then (by assumption) hbC | exact below_then (by assumption) hbS | exact below_then (by assumption) hbNa | exact below_then (by assumption) hbNb | exact below_then (by assumption) hbD)
    (first
      | (go_at_call 33; (with_reducible refine (cmpD_any _ _ b a _ (r_b_5.below (by assumption)) (r_a_5.below (by assumption))).mono ?_); rw [HA.out]; rintro z wC ⟨rfl, hbC⟩)
      | (go_at_call 39; (with_reducible refine (sameD_any _ _ a b _ (r_a_5.below (by assumption)) (r_b_5.below (by assumption))).mono ?_); rw [HS.out]; rintro z wS ⟨rfl, hbS⟩)
      | (go_at_call 37; (with_reducible refine (negT _ b _ (r_b_5.below (by assumption)) hlb).mono ?_); rintro z wNb ⟨⟨A1, n1, c1, rfl, rNb⟩, hbNb⟩)
      | (go_at_call 37; (with_reducible refine (negT _ a _ (r_a_5.below (by assumption)) hla).mono ?_); rintro z wNa ⟨⟨A2, n2, c2, rfl, rNa⟩, hbNa⟩)
      | (go_at_call 33; (with_reducible refine (cmpD_any _ _ (negS b) (negS a) _ (by first | exact rNb | exact rNb.below hbNa) (by first | exact rNa | exact rNa.below hbNb)).mono ?_); rw [HN.out]; rintro z wD ⟨rfl, hbD⟩))
  all_goals
    have hb6 := below_then (by first | exact below_then (below_then (below_then (below_then (Below.refl w5.heap.size w5).drew hbC) hbS) hbNb) hbNa | exact below_then (below_then (below_then (below_then (Below.refl w5.heap.size w5).drew hbC) hbS) hbNa) hbNb) hbD
    have r_a_6 := r_a_5.below hb6
    have b_a_6 := b_a_5.keep hb6
    have r_b_6 := r_b_5.below hb6
    have b_b_6 := b_b_5.keep hb6
    have HT_6 := hide (HT_5.out.below hb6)
    have hbs6 := below_then hbs5 hb6
    clear r_a_5 b_a_5 r_b_5 b_b_5 HT_5 hbs5 hb6
    clear rNb rNa hbC hbS hbNa hbNb hbD e_a0 e_a1 e_a2 e_b0 e_b1 e_b2
    generalize wD = w6 at *
    have q_a0 := b_a_6.cell 0 rfl
    have q_a1 := b_a_6.cell 1 rfl
    have q_a2 := b_a_6.cell 2 rfl
    have q_b0 := b_b_6.cell 0 rfl
    have q_b1 := b_b_6.cell 1 rfl
    have q_b2 := b_b_6.cell 2 rfl
    go_wp2_with fail
    clear q_a0 q_a1 q_a2 q_b0 q_b1 q_b2
    with_reducible refine (subT _ _ a b _ r_a_6 r_b_6 HT_6.out).mono ?_
    rintro e w7 ⟨⟨d_d, x_d, A_d, n_d, c_d, h_d, rfl, r_d⟩, hb7⟩
    have r_a_7 := r_a_6.below hb7
    have b_a_7 := b_a_6.keep hb7
    have r_b_7 := r_b_6.below hb7
    have b_b_7 := b_b_6.keep hb7
    have HT_7 := hide (HT_6.out.below hb7)
    have hbs7 := below_then hbs6 hb7
    clear r_a_6 b_a_6 r_b_6 b_b_6 HT_6 hbs6 hb7
    obtain ⟨b_d_n8, hb8⟩ := box_1 w7 [.bool d_d.neg, .slice A_d n_d c_d, .int .i64 d_d.e] 24
    go_upto_region 7 with fail
    generalize (w7.alloc (.cells #[.bool d_d.neg, .slice A_d n_d c_d, .int .i64 d_d.e] 24)) = w8 at *
    have r_a_8 := r_a_7.below hb8
    have b_a_8 := b_a_7.keep hb8
    have r_b_8 := r_b_7.below hb8
    have b_b_8 := b_b_7.keep hb8
    have HT_8 := hide (HT_7.out.below hb8)
    have r_d_8 := r_d.below hb8
    have hbs8 := below_then hbs7 hb8
    clear r_a_7 b_a_7 r_b_7 b_b_7 HT_7 r_d hbs7 hb8
    by_cases z_d : x_d = 0
    rotate_left
    · have e_d : (x_d == 0) = false := by rw [beq_eq_false_iff_ne]; exact z_d
      clear z_d h_d
      go_upto_region 9 with fail
      have q_a0 := b_a_8.cell 0 rfl
      have q_a1 := b_a_8.cell 1 rfl
      have q_a2 := b_a_8.cell 2 rfl
      go_wp2_with fail
      clear q_a0 q_a1 q_a2
      with_reducible refine (shiftT _ a _ r_a_8 HT_8.out j).mono ?_
      rintro e w9 ⟨⟨d_x, x_x, A_x, n_x, c_x, h_x, rfl, r_x⟩, hb9⟩
      have r_a_9 := r_a_8.below hb9
      have b_a_9 := b_a_8.keep hb9
      have r_b_9 := r_b_8.below hb9
      have b_b_9 := b_b_8.keep hb9
      have HT_9 := hide (HT_8.out.below hb9)
      have r_d_9 := r_d_8.below hb9
      have b_d_9 := b_d_n8.keep hb9
      have hbs9 := below_then hbs8 hb9
      clear r_a_8 b_a_8 r_b_8 b_b_8 HT_8 r_d_8 b_d_n8 hbs8 hb9
      obtain ⟨b_x_n10, hb10⟩ := box_1 w9 [.bool d_x.neg, .slice A_x n_x c_x, .int .i64 d_x.e] 24
      go_upto_region 10 with fail
      generalize (w9.alloc (.cells #[.bool d_x.neg, .slice A_x n_x c_x, .int .i64 d_x.e] 24)) = w10 at *
      have r_a_10 := r_a_9.below hb10
      have b_a_10 := b_a_9.keep hb10
      have r_b_10 := r_b_9.below hb10
      have b_b_10 := b_b_9.keep hb10
      have HT_10 := hide (HT_9.out.below hb10)
      have r_d_10 := r_d_9.below hb10
      have b_d_10 := b_d_9.keep hb10
      have r_x_10 := r_x.below hb10
      have hbs10 := below_then hbs9 hb10
      clear r_a_9 b_a_9 r_b_9 b_b_9 HT_9 r_d_9 b_d_9 r_x hbs9 hb10
      have q_b0 := b_b_10.cell 0 rfl
      have q_b1 := b_b_10.cell 1 rfl
      have q_b2 := b_b_10.cell 2 rfl
      go_wp2_with fail
      clear q_b0 q_b1 q_b2
      with_reducible refine (shiftT _ b _ r_b_10 HT_10.out j).mono ?_
      rintro e w11 ⟨⟨d_y, x_y, A_y, n_y, c_y, h_y, rfl, r_y⟩, hb11⟩
      have r_a_11 := r_a_10.below hb11
      have b_a_11 := b_a_10.keep hb11
      have r_b_11 := r_b_10.below hb11
      have b_b_11 := b_b_10.keep hb11
      have HT_11 := hide (HT_10.out.below hb11)
      have r_d_11 := r_d_10.below hb11
      have b_d_11 := b_d_10.keep hb11
      have r_x_11 := r_x_10.below hb11
      have b_x_11 := b_x_n10.keep hb11
      have hbs11 := below_then hbs10 hb11
      clear r_a_10 b_a_10 r_b_10 b_b_10 HT_10 r_d_10 b_d_10 r_x_10 b_x_n10 hbs10 hb11
      obtain ⟨b_y_n12, hb12⟩ := box_1 w11 [.bool d_y.neg, .slice A_y n_y c_y, .int .i64 d_y.e] 24
      go_upto_region 11 with fail
      generalize (w11.alloc (.cells #[.bool d_y.neg, .slice A_y n_y c_y, .int .i64 d_y.e] 24)) = w12 at *
      have r_a_12 := r_a_11.below hb12
      have b_a_12 := b_a_11.keep hb12
      have r_b_12 := r_b_11.below hb12
      have b_b_12 := b_b_11.keep hb12
      have HT_12 := hide (HT_11.out.below hb12)
      have r_d_12 := r_d_11.below hb12
      have b_d_12 := b_d_11.keep hb12
      have r_x_12 := r_x_11.below hb12
      have b_x_12 := b_x_11.keep hb12
      have r_y_12 := r_y.below hb12
      have hbs12 := below_then hbs11 hb12
      clear r_a_11 b_a_11 r_b_11 b_b_11 HT_11 r_d_11 b_d_11 r_x_11 b_x_11 r_y hbs11 hb12
      by_cases z_x : x_x = 0
      rotate_left
      · have e_x : (x_x != 0) = true := by rw [bne_iff_ne]; exact z_x
        clear z_x
        go_wp2_with fail
        with_reducible refine (told2_any _ HT_12.out).mono ?_
        rintro e w13 ⟨rfl, hb13⟩
        have r_a_13 := r_a_12.below hb13
        have b_a_13 := b_a_12.keep hb13
        have r_b_13 := r_b_12.below hb13
        have b_b_13 := b_b_12.keep hb13
        have HT_13 := hide (HT_12.out.below hb13)
        have r_d_13 := r_d_12.below hb13
        have b_d_13 := b_d_12.keep hb13
        have r_x_13 := r_x_12.below hb13
        have b_x_13 := b_x_12.keep hb13
        have r_y_13 := r_y_12.below hb13
        have b_y_13 := b_y_n12.keep hb13
        have hbs13 := below_then hbs12 hb13
        clear r_a_12 b_a_12 r_b_12 b_b_12 HT_12 r_d_12 b_d_12 r_x_12 b_x_12 r_y_12 b_y_n12 hbs12 hb13
        go_wp2_with fail
        go_ret
        exact ⟨rfl, hbs13⟩
      subst z_x
      by_cases z_y : x_y = 0
      rotate_left
      · have e_y : (x_y != 0) = true := by rw [bne_iff_ne]; exact z_y
        clear z_y
        go_wp2_with fail
        with_reducible refine (told2_any _ HT_12.out).mono ?_
        rintro e w13 ⟨rfl, hb13⟩
        have r_a_13 := r_a_12.below hb13
        have b_a_13 := b_a_12.keep hb13
        have r_b_13 := r_b_12.below hb13
        have b_b_13 := b_b_12.keep hb13
        have HT_13 := hide (HT_12.out.below hb13)
        have r_d_13 := r_d_12.below hb13
        have b_d_13 := b_d_12.keep hb13
        have r_x_13 := r_x_12.below hb13
        have b_x_13 := b_x_12.keep hb13
        have r_y_13 := r_y_12.below hb13
        have b_y_13 := b_y_n12.keep hb13
        have hbs13 := below_then hbs12 hb13
        clear r_a_12 b_a_12 r_b_12 b_b_12 HT_12 r_d_12 b_d_12 r_x_12 b_x_12 r_y_12 b_y_n12 hbs12 hb13
        go_wp2_with fail
        go_ret
        exact ⟨rfl, hbs13⟩
      subst z_y
      have HX : Hid (cmpD d_x d_y = q) := by rw [HQ.out]; exact order_shift hm_a la.out hm_b lb.out h_x.out.symm h_y.out.symm
      have eq2 : (q == q) = true := by simp
      clear h_x h_y
      go_wp2_with fail
      with_reducible refine (told2_any _ HT_12.out).mono ?_
      rintro e w13 ⟨rfl, hb13⟩
      have r_a_13 := r_a_12.below hb13
      have b_a_13 := b_a_12.keep hb13
      have r_b_13 := r_b_12.below hb13
      have b_b_13 := b_b_12.keep hb13
      have HT_13 := hide (HT_12.out.below hb13)
      have r_d_13 := r_d_12.below hb13
      have b_d_13 := b_d_12.keep hb13
      have r_x_13 := r_x_12.below hb13
      have b_x_13 := b_x_12.keep hb13
      have r_y_13 := r_y_12.below hb13
      have b_y_13 := b_y_n12.keep hb13
      have hbs13 := below_then hbs12 hb13
      clear r_a_12 b_a_12 r_b_12 b_b_12 HT_12 r_d_12 b_d_12 r_x_12 b_x_12 r_y_12 b_y_n12 hbs12 hb13
      have q_x0 := b_x_13.cell 0 rfl
      have q_x1 := b_x_13.cell 1 rfl
      have q_x2 := b_x_13.cell 2 rfl
      have q_y0 := b_y_13.cell 0 rfl
      have q_y1 := b_y_13.cell 1 rfl
      have q_y2 := b_y_13.cell 2 rfl
      go_wp2_with fail
      clear q_x0 q_x1 q_x2 q_y0 q_y1 q_y2
      with_reducible refine (cmpD_any _ _ d_x d_y _ r_x_13 r_y_13).mono ?_
      rw [HX.out]
      rintro e w14 ⟨rfl, hb14⟩
      have r_a_14 := r_a_13.below hb14
      have b_a_14 := b_a_13.keep hb14
      have r_b_14 := r_b_13.below hb14
      have b_b_14 := b_b_13.keep hb14
      have HT_14 := hide (HT_13.out.below hb14)
      have r_d_14 := r_d_13.below hb14
      have b_d_14 := b_d_13.keep hb14
      have r_x_14 := r_x_13.below hb14
      have b_x_14 := b_x_13.keep hb14
      have r_y_14 := r_y_13.below hb14
      have b_y_14 := b_y_13.keep hb14
      have hbs14 := below_then hbs13 hb14
      clear r_a_13 b_a_13 r_b_13 b_b_13 HT_13 r_d_13 b_d_13 r_x_13 b_x_13 r_y_13 b_y_13 hbs13 hb14
      go_wp2_with fail
      go_ret
      exact ⟨rfl, hbs14⟩
    subst z_d
    have HD : Hid (signD d_d = q) := by rw [HQ.out]; exact order_sub hm_a la.out hm_b lb.out h_d.out.symm
    clear h_d
    have q_d0 := b_d_n8.cell 0 rfl
    have q_d1 := b_d_n8.cell 1 rfl
    have q_d2 := b_d_n8.cell 2 rfl
    go_wp2_with fail
    clear q_d0 q_d1 q_d2
    with_reducible refine (signD_any _ d_d _ r_d_8).mono ?_
    rw [HD.out]
    rintro e w9 ⟨rfl, hb9⟩
    have r_a_9 := r_a_8.below hb9
    have b_a_9 := b_a_8.keep hb9
    have r_b_9 := r_b_8.below hb9
    have b_b_9 := b_b_8.keep hb9
    have HT_9 := hide (HT_8.out.below hb9)
    have r_d_9 := r_d_8.below hb9
    have b_d_9 := b_d_n8.keep hb9
    have hbs9 := below_then hbs8 hb9
    clear r_a_8 b_a_8 r_b_8 b_b_8 HT_8 r_d_8 b_d_n8 hbs8 hb9
    go_upto_region 9 with fail
    have q_a0 := b_a_9.cell 0 rfl
    have q_a1 := b_a_9.cell 1 rfl
    have q_a2 := b_a_9.cell 2 rfl
    go_wp2_with fail
    clear q_a0 q_a1 q_a2
    with_reducible refine (shiftT _ a _ r_a_9 HT_9.out j).mono ?_
    rintro e w10 ⟨⟨d_x, x_x, A_x, n_x, c_x, h_x, rfl, r_x⟩, hb10⟩
    have r_a_10 := r_a_9.below hb10
    have b_a_10 := b_a_9.keep hb10
    have r_b_10 := r_b_9.below hb10
    have b_b_10 := b_b_9.keep hb10
    have HT_10 := hide (HT_9.out.below hb10)
    have r_d_10 := r_d_9.below hb10
    have b_d_10 := b_d_9.keep hb10
    have hbs10 := below_then hbs9 hb10
    clear r_a_9 b_a_9 r_b_9 b_b_9 HT_9 r_d_9 b_d_9 hbs9 hb10
    obtain ⟨b_x_n11, hb11⟩ := box_1 w10 [.bool d_x.neg, .slice A_x n_x c_x, .int .i64 d_x.e] 24
    go_upto_region 10 with fail
    generalize (w10.alloc (.cells #[.bool d_x.neg, .slice A_x n_x c_x, .int .i64 d_x.e] 24)) = w11 at *
    have r_a_11 := r_a_10.below hb11
    have b_a_11 := b_a_10.keep hb11
    have r_b_11 := r_b_10.below hb11
    have b_b_11 := b_b_10.keep hb11
    have HT_11 := hide (HT_10.out.below hb11)
    have r_d_11 := r_d_10.below hb11
    have b_d_11 := b_d_10.keep hb11
    have r_x_11 := r_x.below hb11
    have hbs11 := below_then hbs10 hb11
    clear r_a_10 b_a_10 r_b_10 b_b_10 HT_10 r_d_10 b_d_10 r_x hbs10 hb11
    have q_b0 := b_b_11.cell 0 rfl
    have q_b1 := b_b_11.cell 1 rfl
    have q_b2 := b_b_11.cell 2 rfl
    go_wp2_with fail
    clear q_b0 q_b1 q_b2
    with_reducible refine (shiftT _ b _ r_b_11 HT_11.out j).mono ?_
    rintro e w12 ⟨⟨d_y, x_y, A_y, n_y, c_y, h_y, rfl, r_y⟩, hb12⟩
    have r_a_12 := r_a_11.below hb12
    have b_a_12 := b_a_11.keep hb12
    have r_b_12 := r_b_11.below hb12
    have b_b_12 := b_b_11.keep hb12
    have HT_12 := hide (HT_11.out.below hb12)
    have r_d_12 := r_d_11.below hb12
    have b_d_12 := b_d_11.keep hb12
    have r_x_12 := r_x_11.below hb12
    have b_x_12 := b_x_n11.keep hb12
    have hbs12 := below_then hbs11 hb12
    clear r_a_11 b_a_11 r_b_11 b_b_11 HT_11 r_d_11 b_d_11 r_x_11 b_x_n11 hbs11 hb12
    obtain ⟨b_y_n13, hb13⟩ := box_1 w12 [.bool d_y.neg, .slice A_y n_y c_y, .int .i64 d_y.e] 24
    go_upto_region 11 with fail
    generalize (w12.alloc (.cells #[.bool d_y.neg, .slice A_y n_y c_y, .int .i64 d_y.e] 24)) = w13 at *
    have r_a_13 := r_a_12.below hb13
    have b_a_13 := b_a_12.keep hb13
    have r_b_13 := r_b_12.below hb13
    have b_b_13 := b_b_12.keep hb13
    have HT_13 := hide (HT_12.out.below hb13)
    have r_d_13 := r_d_12.below hb13
    have b_d_13 := b_d_12.keep hb13
    have r_x_13 := r_x_12.below hb13
    have b_x_13 := b_x_12.keep hb13
    have r_y_13 := r_y.below hb13
    have hbs13 := below_then hbs12 hb13
    clear r_a_12 b_a_12 r_b_12 b_b_12 HT_12 r_d_12 b_d_12 r_x_12 b_x_12 r_y hbs12 hb13
    by_cases z_x : x_x = 0
    rotate_left
    · have e_x : (x_x != 0) = true := by rw [bne_iff_ne]; exact z_x
      clear z_x
      go_wp2_with fail
      with_reducible refine (told2_any _ HT_13.out).mono ?_
      rintro e w14 ⟨rfl, hb14⟩
      have r_a_14 := r_a_13.below hb14
      have b_a_14 := b_a_13.keep hb14
      have r_b_14 := r_b_13.below hb14
      have b_b_14 := b_b_13.keep hb14
      have HT_14 := hide (HT_13.out.below hb14)
      have r_d_14 := r_d_13.below hb14
      have b_d_14 := b_d_13.keep hb14
      have r_x_14 := r_x_13.below hb14
      have b_x_14 := b_x_13.keep hb14
      have r_y_14 := r_y_13.below hb14
      have b_y_14 := b_y_n13.keep hb14
      have hbs14 := below_then hbs13 hb14
      clear r_a_13 b_a_13 r_b_13 b_b_13 HT_13 r_d_13 b_d_13 r_x_13 b_x_13 r_y_13 b_y_n13 hbs13 hb14
      go_wp2_with fail
      go_ret
      exact ⟨rfl, hbs14⟩
    subst z_x
    by_cases z_y : x_y = 0
    rotate_left
    · have e_y : (x_y != 0) = true := by rw [bne_iff_ne]; exact z_y
      clear z_y
      go_wp2_with fail
      with_reducible refine (told2_any _ HT_13.out).mono ?_
      rintro e w14 ⟨rfl, hb14⟩
      have r_a_14 := r_a_13.below hb14
      have b_a_14 := b_a_13.keep hb14
      have r_b_14 := r_b_13.below hb14
      have b_b_14 := b_b_13.keep hb14
      have HT_14 := hide (HT_13.out.below hb14)
      have r_d_14 := r_d_13.below hb14
      have b_d_14 := b_d_13.keep hb14
      have r_x_14 := r_x_13.below hb14
      have b_x_14 := b_x_13.keep hb14
      have r_y_14 := r_y_13.below hb14
      have b_y_14 := b_y_n13.keep hb14
      have hbs14 := below_then hbs13 hb14
      clear r_a_13 b_a_13 r_b_13 b_b_13 HT_13 r_d_13 b_d_13 r_x_13 b_x_13 r_y_13 b_y_n13 hbs13 hb14
      go_wp2_with fail
      go_ret
      exact ⟨rfl, hbs14⟩
    subst z_y
    have HX : Hid (cmpD d_x d_y = q) := by rw [HQ.out]; exact order_shift hm_a la.out hm_b lb.out h_x.out.symm h_y.out.symm
    have eq2 : (q == q) = true := by simp
    clear h_x h_y
    go_wp2_with fail
    with_reducible refine (told2_any _ HT_13.out).mono ?_
    rintro e w14 ⟨rfl, hb14⟩
    have r_a_14 := r_a_13.below hb14
    have b_a_14 := b_a_13.keep hb14
    have r_b_14 := r_b_13.below hb14
    have b_b_14 := b_b_13.keep hb14
    have HT_14 := hide (HT_13.out.below hb14)
    have r_d_14 := r_d_13.below hb14
    have b_d_14 := b_d_13.keep hb14
    have r_x_14 := r_x_13.below hb14
    have b_x_14 := b_x_13.keep hb14
    have r_y_14 := r_y_13.below hb14
    have b_y_14 := b_y_n13.keep hb14
    have hbs14 := below_then hbs13 hb14
    clear r_a_13 b_a_13 r_b_13 b_b_13 HT_13 r_d_13 b_d_13 r_x_13 b_x_13 r_y_13 b_y_n13 hbs13 hb14
    have q_x0 := b_x_14.cell 0 rfl
    have q_x1 := b_x_14.cell 1 rfl
    have q_x2 := b_x_14.cell 2 rfl
    have q_y0 := b_y_14.cell 0 rfl
    have q_y1 := b_y_14.cell 1 rfl
    have q_y2 := b_y_14.cell 2 rfl
    go_wp2_with fail
    clear q_x0 q_x1 q_x2 q_y0 q_y1 q_y2
    with_reducible refine (cmpD_any _ _ d_x d_y _ r_x_14 r_y_14).mono ?_
    rw [HX.out]
    rintro e w15 ⟨rfl, hb15⟩
    have r_a_15 := r_a_14.below hb15
    have b_a_15 := b_a_14.keep hb15
    have r_b_15 := r_b_14.below hb15
    have b_b_15 := b_b_14.keep hb15
    have HT_15 := hide (HT_14.out.below hb15)
    have r_d_15 := r_d_14.below hb15
    have b_d_15 := b_d_14.keep hb15
    have r_x_15 := r_x_14.below hb15
    have b_x_15 := b_x_14.keep hb15
    have r_y_15 := r_y_14.below hb15
    have b_y_15 := b_y_14.keep hb15
    have hbs15 := below_then hbs14 hb15
    clear r_a_14 b_a_14 r_b_14 b_b_14 HT_14 r_d_14 b_d_14 r_x_14 b_x_14 r_y_14 b_y_14 hbs14 hb15
    go_wp2_with fail
    go_ret
    exact ⟨rfl, hbs15⟩
end Go.Proofs.YtaifjldpjkabjaaDoor
namespace Go.Proofs.YtaifjldpjkabjaaDoor
open Go.RowKit Pl
attribute [local go_sem ↓] Go.wp_at_zero Go.wp_at_succ

theorem or_one {t : Nat} (h : t < BB) : bits .or .u64 (t : Int) 1 = ((t ||| 1 : Nat) : Int) := u64_or_nat t 1 h (by omega)
theorem or_one_lt {t : Nat} (h : t < BB) : t ||| 1 < BB := by
  rw [BB_eq] at *
  exact Nat.or_lt_two_pow h (by omega)
theorem or_one_odd (t : Nat) : (t ||| 1) % 2 = 1 := by
  have h := Nat.or_mod_two_pow (a := t) (b := 1) (n := 1)
  rw [Nat.pow_one] at h
  rw [h]
  rcases Nat.mod_two_eq_zero_or_one t with e | e <;> rw [e] <;> rfl
theorem may1L {x : Nat} (h : 0 < x) : mayN [x] = true := by
  have : ¬ x = 0 := by omega
  simp [mayN, nth, this]
theorem val1L (x : Nat) : val BB [x] = x := by simp [val]
theorem rdOne {W : World} {b x : Nat} {t : TypeId} (h : Box W b [.int .u64 (x : Int)] t) : RdN .u64 W (some ⟨b, 0, none⟩) 1 1 [x] :=
  ⟨rfl, Nat.le_refl _, by unfold maxLen; omega, fun _ => ⟨b, 0, rfl, h.lt, fun k hk => by
    obtain rfl : k = 0 := by omega
    exact h.cell 0 rfl⟩⟩
theorem far_cut (j : Int) : ∃ k : Nat, 5000 ≤ k ∧ k < 505000 ∧ wrap64 (5000 + wrap64 ((IntKind.u64.wrap j).tmod 500000)) = (k : Int) := by
  have h0 : 0 ≤ IntKind.u64.wrap j := by rw [IntKind.wrap_u64]; omega
  rw [Int.tmod_eq_emod_of_nonneg h0]
  have h1 : 0 ≤ IntKind.u64.wrap j % 500000 := Int.emod_nonneg _ (by omega)
  have h2 : IntKind.u64.wrap j % 500000 < 500000 := Int.emod_lt_of_pos _ (by omega)
  refine ⟨5000 + (IntKind.u64.wrap j % 500000).toNat, by omega, by omega, ?_⟩
  rw [IntWalk.wrap64_in (IntKind.u64.wrap j % 500000) (by omega), IntWalk.wrap64_in _ (by omega)]
  omega
theorem far_may {s t k : Nat} (hs : s % 2 = 1) (ht : t % 2 = 1) (hk1 : 5000 ≤ k) (hk2 : k < 505000) : mayD ⟨false, [s], (k : Int)⟩ = true ∧ mayD ⟨false, [t], -(k : Int)⟩ = true := by
  have hm : ∀ x, x % 2 = 1 → mayN [x] = true := fun x h => may1L (by omega)
  have h1 : ¬ (k : Int) < -1048576 := by omega
  refine ⟨?_, ?_⟩ <;> unfold mayD <;> simp only [List.length_cons, List.length_nil] <;> rw [if_neg (by omega)] <;> simp only [Bool.and_eq_true, decide_eq_true_eq]
  · exact ⟨⟨⟨hm s hs, hs⟩, by omega⟩, by omega⟩
  · exact ⟨⟨⟨hm t ht, ht⟩, by omega⟩, by omega⟩
theorem far_sumO {s t k : Nat} (hs : s % 2 = 1) (hk1 : 5000 ≤ k) (hk2 : k < 505000) (g1 g2 : Bool) : sumO ⟨g1, [s], (k : Int)⟩ ⟨g2, [t], -(k : Int)⟩ = (Dy.zero, 2) := by
  unfold sumO
  have e2 : val BB [s] = s := val1L s
  simp only
  rw [e2]
  have b1 : 1 ≤ blen s := blen_pos.2 (by omega)
  rw [if_neg (by rintro (h | h) <;> omega)]
theorem far_mag {s t k : Nat} (hs : s % 2 = 1) (ht : t % 2 = 1) (ht2 : t < BB) (hk1 : 5000 ≤ k) (hk2 : k < 505000) : magD ⟨false, [t], -(k : Int)⟩ < magD ⟨false, [s], (k : Int)⟩ := by
  obtain ⟨h1, h2⟩ := far_may hs ht hk1 hk2
  refine mag_lt h2 h1 (by simp) ?_
  have e1 : val BB [t] = t := val1L t
  have e2 : val BB [s] = s := val1L s
  simp only
  rw [e1, e2]
  have b1 : blen t ≤ 64 := by rw [blen_le, ← BB_eq]; exact ht2
  omega
theorem far_sum {s t k : Nat} (hs : s % 2 = 1) (ht : t % 2 = 1) (hk1 : 5000 ≤ k) (hk2 : k < 505000) : twoS ⟨false, [s], (k : Int)⟩ ⟨false, [t], -(k : Int)⟩ (sumS ⟨false, [s], (k : Int)⟩ ⟨false, [t], -(k : Int)⟩) = (Dy.zero, 2) := by
  obtain ⟨h1, h2⟩ := far_may hs ht hk1 hk2
  rw [twoS_of h1 h2]
  unfold sumS
  rw [if_neg (by simp), if_neg (by simp), if_neg (by simp only; omega)]
  exact far_sumO hs hk1 hk2 _ _
theorem far_sub {s t k : Nat} (hs : s % 2 = 1) (ht : t % 2 = 1) (hk1 : 5000 ≤ k) (hk2 : k < 505000) : twoS ⟨false, [t], -(k : Int)⟩ ⟨false, [s], (k : Int)⟩ (subS ⟨false, [t], -(k : Int)⟩ ⟨false, [s], (k : Int)⟩) = (Dy.zero, 2) := by
  obtain ⟨h1, h2⟩ := far_may hs ht hk1 hk2
  rw [twoS_of h2 h1]
  have hn : negS ⟨false, [s], (k : Int)⟩ = ⟨true, [s], (k : Int)⟩ := by unfold negS; rw [if_pos ⟨h1, by simp⟩]; rfl
  unfold subS sumS
  rw [hn, if_neg (by simp), if_neg (by simp), if_pos (by simp only; omega)]
  exact far_sumO hs hk1 hk2 _ _
section
variable {s t k : Nat} (hs : s % 2 = 1) (hs2 : s < BB) (ht : t % 2 = 1) (ht2 : t < BB) (hk1 : 5000 ≤ k) (hk2 : k < 505000)
include hs hs2 ht ht2 hk1 hk2
theorem far_cmp : cmpD ⟨false, [s], (k : Int)⟩ ⟨false, [t], -(k : Int)⟩ = 1 := by
  obtain ⟨h1, h2⟩ := far_may hs ht hk1 hk2
  have h3 := far_mag hs ht ht2 hk1 hk2
  rw [cmpD_Z h1 (Lim.cons hs2 Lim.nil) h2 (Lim.cons ht2 Lim.nil), ZD_mag, ZD_mag]
  generalize magD ⟨false, [t], -(k : Int)⟩ = x at *
  generalize magD ⟨false, [s], (k : Int)⟩ = y at *
  unfold cmpI
  simp only [sgI, Bool.false_eq_true, if_false]
  rw [if_neg (by omega), if_pos (by omega)]
theorem far_ncmp : cmpD (negS ⟨false, [s], (k : Int)⟩) ⟨false, [t], -(k : Int)⟩ = -1 := by
  obtain ⟨h1, h2⟩ := far_may hs ht hk1 hk2
  have p1 := magD_pos h1 (by simp)
  have p2 := magD_pos h2 (by simp)
  rw [cmpD_Z (negS_may h1) (negS_lim (Lim.cons hs2 Lim.nil)) h2 (Lim.cons ht2 Lim.nil), ZD_neg h1, ZD_mag, ZD_mag]
  generalize magD ⟨false, [t], -(k : Int)⟩ = x at *
  generalize magD ⟨false, [s], (k : Int)⟩ = y at *
  unfold cmpI
  simp only [sgI, Bool.false_eq_true, if_false]
  rw [if_pos (by omega)]
theorem far_mul : ∃ m, twoS ⟨false, [s], (k : Int)⟩ ⟨false, [t], -(k : Int)⟩ (mulS ⟨false, [s], (k : Int)⟩ ⟨false, [t], -(k : Int)⟩) = (m, 0) ∧ m.e = 0 := by
  obtain ⟨h1, h2⟩ := far_may hs ht hk1 hk2
  rw [twoS_of h1 h2]
  unfold mulS
  simp only
  rw [val1L, val1L]
  have ho : s * t % 2 = 1 := by rw [Nat.mul_mod, hs, ht]
  have hl : (limbs BB (s * t)).length ≤ 64 := by
    rw [limbs_len_le BB_gt1]
    have : s * t < BB * BB := Nat.mul_lt_mul'' hs2 ht2
    exact Nat.lt_of_lt_of_le this (by rw [← Nat.pow_two]; exact Nat.pow_le_pow_right BB_pos (by omega))
  refine ⟨⟨false, limbs BB (s * t), 0⟩, ?_, rfl⟩
  rw [fitS_eq (by intro e; rw [e] at ho; omega), tz_odd ho, Nat.pow_zero, Nat.div_one, if_neg (by omega), if_pos (by omega)]
  congr 2
  simp
  omega
end

set_option maxRecDepth 100000 in
set_option maxHeartbeats 8000000 in
theorem dyadFar_any (s t : Nat) (j : Int) (w : World) (hs : s < BB) (ht : t < BB) (hT : TabAt w) :
    Calls Tryd.prog 6 #[.int .u64 (s : Int), .int .u64 (t : Int), .int .i64 j] w fun x w' => x = .returned (.bool true) ∧ Below w.heap.size w w' := by
  have ho1 := or_one hs
  have ho2 := or_one ht
  have hx1 := or_one_lt hs
  have hy1 := or_one_lt ht
  have hx2 := or_one_odd s
  have hy2 := or_one_odd t
  obtain ⟨x, ex⟩ : ∃ x, x = s ||| 1 := ⟨_, rfl⟩
  obtain ⟨y, ey⟩ : ∃ y, y = t ||| 1 := ⟨_, rfl⟩
  rw [← ex] at ho1 hx1 hx2
  rw [← ey] at ho2 hy1 hy2
  clear ex ey
  obtain ⟨k, hk1, hk2, hk3⟩ := far_cut j
  have C1 := hide (far_cmp hx2 hx1 hy2 hy1 hk1 hk2)
  have C2 := hide (far_ncmp hx2 hx1 hy2 hy1 hk1 hk2)
  have C3 := hide (far_sum hx2 hy2 hk1 hk2)
  have C4 := hide (far_sub hx2 hy2 hk1 hk2)
  obtain ⟨m, C5, em⟩ := far_mul hx2 hx1 hy2 hy1 hk1 hk2
  have HM := hide C5
  have EM := hide em
  have hwk : IntKind.i64.wrap (-(k : Int)) = -(k : Int) := IntWalk.i64_in _ (by omega)
  obtain ⟨X, hX⟩ : ∃ X : Dy, X = ⟨false, [x], (k : Int)⟩ := ⟨_, rfl⟩
  obtain ⟨Y, hY⟩ : ∃ Y : Dy, Y = ⟨false, [y], -(k : Int)⟩ := ⟨_, rfl⟩
  rw [← hX, ← hY] at C1 C2 C3 C4 HM
  have hLX : Lim BB [x] := Lim.cons hx1 Lim.nil
  have hLY : Lim BB [y] := Lim.cons hy1 Lim.nil
  have HT := hide hT
  have HO1 := hide ho1
  have HO2 := hide ho2
  have HK3 := hide hk3
  clear hT C5 em hx1 hy1 hx2 hy2 ho1 ho2 hk3
  obtain ⟨hA, hB, hb0⟩ := box_2 w [.int .u64 (x : Int)] [.int .u64 (y : Int)] 38 38
  obtain ⟨b_X, b_Y, hb1⟩ := box_2 ((w.alloc (.cells #[.int .u64 (x : Int)] 38)).alloc (.cells #[.int .u64 (y : Int)] 38)) [.bool false, .slice (some ⟨w.heap.size, 0, none⟩) 1 1, .int .i64 (k : Int)] [.bool false, .slice (some ⟨w.heap.size + 1, 0, none⟩) 1 1, .int .i64 (-(k : Int))] 24 24
  have esz : ((w.alloc (.cells #[.int .u64 (x : Int)] 38)).alloc (.cells #[.int .u64 (y : Int)] 38)).heap.size = w.heap.size + 1 + 1 := by simp
  have hA := hA.keep hb1
  have hB := hB.keep hb1
  have hb0 := below_then hb0 hb1
  rw [esz] at b_X b_Y
  have HT := hide (HT.out.below hb0)
  clear hb1 esz
  go_enter Tryd.func6, Tryd.ntmps6
  go_upto_region 2 with fail
  rw [HK3.out]
  go_upto_region 3 with fail
  rw [HO1.out, HO2.out]
  generalize (((w.alloc (.cells #[.int .u64 (x : Int)] 38)).alloc (.cells #[.int .u64 (y : Int)] 38)).alloc (.cells #[.bool false, .slice (some ⟨w.heap.size, 0, none⟩) 1 1, .int .i64 (k : Int)] 24)).alloc (.cells #[.bool false, .slice (some ⟨w.heap.size + 1, 0, none⟩) 1 1, .int .i64 (-(k : Int))] 24) = w0 at *
  have r_X : RdD w0 (.agg #[.bool false, .slice (some ⟨w.heap.size, 0, none⟩) 1 1, .int .i64 (k : Int)]) X := by
    rw [hX]
    exact ⟨_, _, _, rfl, rdOne hA, hLX, by simp only; omega, by simp only; omega⟩
  have r_Y : RdD w0 (.agg #[.bool false, .slice (some ⟨w.heap.size + 1, 0, none⟩) 1 1, .int .i64 (-(k : Int))]) Y := by
    rw [hY]
    exact ⟨_, _, _, rfl, rdOne hB, hLY, by simp only; omega, by simp only; omega⟩
  have hlX : X.m.length ≤ 1000000 := by rw [hX]; simp
  clear hX hY hA hB hLX hLY HO1 HO2 HK3
  have q_X0 := b_X.cell 0 rfl
  have q_X1 := b_X.cell 1 rfl
  have q_X2 := b_X.cell 2 rfl
  have q_Y0 := b_Y.cell 0 rfl
  have q_Y1 := b_Y.cell 1 rfl
  have q_Y2 := b_Y.cell 2 rfl
  go_wp2_with fail
  clear q_X0 q_X1 q_X2 q_Y0 q_Y1 q_Y2
  with_reducible refine (addT _ _ X Y _ r_X r_Y HT.out).mono ?_
  rintro e w1 ⟨⟨d_s, x_s, A_s, n_s, c_s, h_s, rfl, r_s⟩, hb1⟩
  have r_X_1 := r_X.below hb1
  have b_X_1 := b_X.keep hb1
  have r_Y_1 := r_Y.below hb1
  have b_Y_1 := b_Y.keep hb1
  have HT_1 := hide (HT.out.below hb1)
  have hbs1 := below_then hb0 hb1
  clear r_X b_X r_Y b_Y HT hb0 hb1
  obtain ⟨e1, e2⟩ := Prod.mk.inj (h_s.out.trans C3.out)
  have D_s := hide e1
  clear e1 h_s
  subst e2
  obtain ⟨b_s_n2, hb2⟩ := box_1 w1 [.bool d_s.neg, .slice A_s n_s c_s, .int .i64 d_s.e] 24
  go_upto_region 4 with fail
  generalize (w1.alloc (.cells #[.bool d_s.neg, .slice A_s n_s c_s, .int .i64 d_s.e] 24)) = w2 at *
  have r_X_2 := r_X_1.below hb2
  have b_X_2 := b_X_1.keep hb2
  have r_Y_2 := r_Y_1.below hb2
  have b_Y_2 := b_Y_1.keep hb2
  have HT_2 := hide (HT_1.out.below hb2)
  have r_s_2 := r_s.below hb2
  have hbs2 := below_then hbs1 hb2
  clear r_X_1 b_X_1 r_Y_1 b_Y_1 HT_1 r_s hbs1 hb2
  have q_X0 := b_X_2.cell 0 rfl
  have q_X1 := b_X_2.cell 1 rfl
  have q_X2 := b_X_2.cell 2 rfl
  have q_Y0 := b_Y_2.cell 0 rfl
  have q_Y1 := b_Y_2.cell 1 rfl
  have q_Y2 := b_Y_2.cell 2 rfl
  go_wp2_with fail
  clear q_X0 q_X1 q_X2 q_Y0 q_Y1 q_Y2
  with_reducible refine (subT _ _ Y X _ r_Y_2 r_X_2 HT_2.out).mono ?_
  rintro e w3 ⟨⟨d_d, x_d, A_d, n_d, c_d, h_d, rfl, r_d⟩, hb3⟩
  have r_X_3 := r_X_2.below hb3
  have b_X_3 := b_X_2.keep hb3
  have r_Y_3 := r_Y_2.below hb3
  have b_Y_3 := b_Y_2.keep hb3
  have HT_3 := hide (HT_2.out.below hb3)
  have r_s_3 := r_s_2.below hb3
  have b_s_3 := b_s_n2.keep hb3
  have hbs3 := below_then hbs2 hb3
  clear r_X_2 b_X_2 r_Y_2 b_Y_2 HT_2 r_s_2 b_s_n2 hbs2 hb3
  obtain ⟨e1, e2⟩ := Prod.mk.inj (h_d.out.trans C4.out)
  have D_d := hide e1
  clear e1 h_d
  subst e2
  obtain ⟨b_d_n4, hb4⟩ := box_1 w3 [.bool d_d.neg, .slice A_d n_d c_d, .int .i64 d_d.e] 24
  go_upto_region 5 with fail
  generalize (w3.alloc (.cells #[.bool d_d.neg, .slice A_d n_d c_d, .int .i64 d_d.e] 24)) = w4 at *
  have r_X_4 := r_X_3.below hb4
  have b_X_4 := b_X_3.keep hb4
  have r_Y_4 := r_Y_3.below hb4
  have b_Y_4 := b_Y_3.keep hb4
  have HT_4 := hide (HT_3.out.below hb4)
  have r_s_4 := r_s_3.below hb4
  have b_s_4 := b_s_3.keep hb4
  have r_d_4 := r_d.below hb4
  have hbs4 := below_then hbs3 hb4
  clear r_X_3 b_X_3 r_Y_3 b_Y_3 HT_3 r_s_3 b_s_3 r_d hbs3 hb4
  have q_X0 := b_X_4.cell 0 rfl
  have q_X1 := b_X_4.cell 1 rfl
  have q_X2 := b_X_4.cell 2 rfl
  have q_Y0 := b_Y_4.cell 0 rfl
  have q_Y1 := b_Y_4.cell 1 rfl
  have q_Y2 := b_Y_4.cell 2 rfl
  go_wp2_with fail
  clear q_X0 q_X1 q_X2 q_Y0 q_Y1 q_Y2
  with_reducible refine (mulT _ _ X Y _ r_X_4 r_Y_4 HT_4.out).mono ?_
  rintro e w5 ⟨⟨d_m, x_m, A_m, n_m, c_m, h_m, rfl, r_m⟩, hb5⟩
  have r_X_5 := r_X_4.below hb5
  have b_X_5 := b_X_4.keep hb5
  have r_Y_5 := r_Y_4.below hb5
  have b_Y_5 := b_Y_4.keep hb5
  have HT_5 := hide (HT_4.out.below hb5)
  have r_s_5 := r_s_4.below hb5
  have b_s_5 := b_s_4.keep hb5
  have r_d_5 := r_d_4.below hb5
  have b_d_5 := b_d_n4.keep hb5
  have hbs5 := below_then hbs4 hb5
  clear r_X_4 b_X_4 r_Y_4 b_Y_4 HT_4 r_s_4 b_s_4 r_d_4 b_d_n4 hbs4 hb5
  obtain ⟨e1, e2⟩ := Prod.mk.inj (h_m.out.trans HM.out)
  have D_m := hide e1
  clear e1 h_m
  subst e2
  obtain ⟨b_m_n6, hb6⟩ := box_1 w5 [.bool d_m.neg, .slice A_m n_m c_m, .int .i64 d_m.e] 24
  go_upto_region 6 with fail
  generalize (w5.alloc (.cells #[.bool d_m.neg, .slice A_m n_m c_m, .int .i64 d_m.e] 24)) = w6 at *
  have r_X_6 := r_X_5.below hb6
  have b_X_6 := b_X_5.keep hb6
  have r_Y_6 := r_Y_5.below hb6
  have b_Y_6 := b_Y_5.keep hb6
  have HT_6 := hide (HT_5.out.below hb6)
  have r_s_6 := r_s_5.below hb6
  have b_s_6 := b_s_5.keep hb6
  have r_d_6 := r_d_5.below hb6
  have b_d_6 := b_d_5.keep hb6
  have r_m_6 := r_m.below hb6
  have hbs6 := below_then hbs5 hb6
  clear r_X_5 b_X_5 r_Y_5 b_Y_5 HT_5 r_s_5 b_s_5 r_d_5 b_d_5 r_m hbs5 hb6
  have e_X0 := b_X_6.cellE b_X_6.lt 0 rfl
  have e_X1 := b_X_6.cellE b_X_6.lt 1 rfl
  have e_X2 := b_X_6.cellE b_X_6.lt 2 rfl
  have e_Y0 := b_Y_6.cellE b_Y_6.lt 0 rfl
  have e_Y1 := b_Y_6.cellE b_Y_6.lt 1 rfl
  have e_Y2 := b_Y_6.cellE b_Y_6.lt 2 rfl
  have e_s0 := b_s_6.cellE b_s_6.lt 0 rfl
  have e_s1 := b_s_6.cellE b_s_6.lt 1 rfl
  have e_s2 := b_s_6.cellE b_s_6.lt 2 rfl
  have e_d0 := b_d_6.cellE b_d_6.lt 0 rfl
  have e_d1 := b_d_6.cellE b_d_6.lt 1 rfl
  have e_d2 := b_d_6.cellE b_d_6.lt 2 rfl
  have e_m0 := b_m_n6.cellE b_m_n6.lt 0 rfl
  have e_m1 := b_m_n6.cellE b_m_n6.lt 1 rfl
  have e_m2 := b_m_n6.cellE b_m_n6.lt 2 rfl
  have he_m : d_m.e = 0 := by rw [D_m.out]; exact EM.out
  have E1 : Hid (sameD d_s Dy.zero = true) := by unfold Hid; rw [D_s.out]; exact sameD_self _
  have E2 : Hid (sameD d_d Dy.zero = true) := by unfold Hid; rw [D_d.out]; exact sameD_self _
  go_region_held3 (fun w' => Below w6.heap.size w6 w') (first | exact (Below.refl _ _).drew | exact below_then (by assumption) hbT | exact below_then (by assumption) hbC | exact below_then (by assumption) hbN | exact below_then (by assumption) hbD | exact below_then (by assumption) hbS | exact below_then (by assumption) hbU)
    (first
      | (go_at_call 14; (with_reducible refine (told2_any _ (HT_6.out.below (by assumption))).mono ?_); rintro z wT ⟨rfl, hbT⟩)
      | (go_at_call 33; (with_reducible refine (cmpD_any _ _ X Y _ (r_X_6.below (by assumption)) (r_Y_6.below (by assumption))).mono ?_); rw [C1.out]; rintro z wC ⟨rfl, hbC⟩)
      | (go_at_call 37; (with_reducible refine (negT _ X _ (r_X_6.below (by assumption)) hlX).mono ?_); rintro z wN ⟨⟨A1, n1, c1, rfl, rN⟩, hbN⟩)
      | (go_at_call 33; (with_reducible refine (cmpD_any _ _ (negS X) Y _ rN (r_Y_6.below (by assumption))).mono ?_); rw [C2.out]; rintro z wD ⟨rfl, hbD⟩)
      | (go_at_call 39; (with_reducible refine (sameD_any _ _ d_s Dy.zero _ (r_s_6.below (by assumption)) (RdD.zero _)).mono ?_); rw [E1.out]; rintro z wS ⟨rfl, hbS⟩)
      | (go_at_call 39; (with_reducible refine (sameD_any _ _ d_d Dy.zero _ (r_d_6.below (by assumption)) (RdD.zero _)).mono ?_); rw [E2.out]; rintro z wU ⟨rfl, hbU⟩))
  all_goals
    have hbF := below_then hbs6 (below_then (below_then (below_then (below_then (below_then (below_then (Below.refl w6.heap.size w6).drew hbT) hbC) hbN) hbD) hbS) hbU)
    go_wp2
    go_ret
    exact ⟨rfl, hbF⟩
end Go.Proofs.YtaifjldpjkabjaaDoor
