/- sluicewaylaw2: the walk of DyadOrder. Printed by wip/mk_L2C.py. sluicewaylaw2: the walk of DyadFar. Printed by wip/mk_L2D.py. -/
import Derived.Test.YteodljieiloebaaDoorL2Ax
import Derived.Deep.RegionHeld3
import Derived.Deep.DrawnRows
namespace Go.Proofs.YteodljieiloebaaDoor
open Go.RowKit Pl
attribute [local go_sem ↓] Go.wp_at_zero Go.wp_at_succ

theorem cmpI_range (x y : Int) : -1 ≤ cmpI x y ∧ cmpI x y ≤ 1 := by unfold cmpI; split <;> (try split) <;> omega
theorem cmpI_anti (x y : Int) : cmpI y x = - cmpI x y := by
  unfold cmpI
  rcases Int.lt_trichotomy x y with h | h | h
  · rw [if_pos h, if_neg (by omega), if_pos h]; rfl
  · rw [if_neg (by omega), if_neg (by omega), if_neg (by omega), if_neg (by omega)]; rfl
  · rw [if_pos h, if_neg (by omega), if_pos h]
theorem cmpI_neg (x y : Int) : cmpI (-y) (-x) = cmpI x y := by
  unfold cmpI
  rcases Int.lt_trichotomy x y with h | h | h
  · rw [if_pos h, if_pos (by omega)]
  · rw [if_neg (by omega), if_neg (by omega), if_neg (by omega), if_neg (by omega)]
  · rw [if_neg (by omega), if_pos (by omega), if_neg (by omega), if_pos h]
theorem cmpI_sub (x y : Int) : cmpI (x - y) 0 = cmpI x y := by
  unfold cmpI
  rcases Int.lt_trichotomy x y with h | h | h
  · rw [if_pos h, if_pos (by omega)]
  · rw [if_neg (by omega), if_neg (by omega), if_neg (by omega), if_neg (by omega)]
  · rw [if_neg (by omega), if_pos (by omega), if_neg (by omega), if_pos h]
theorem cmpI_zero (x y : Int) : (cmpI x y == 0) = decide (x = y) := by
  unfold cmpI
  rcases Int.lt_trichotomy x y with h | h | h
  · rw [if_pos h, decide_eq_false (by omega)]; rfl
  · rw [if_neg (by omega), if_neg (by omega), decide_eq_true h]; rfl
  · rw [if_neg (by omega), if_pos h, decide_eq_false (by omega)]; rfl
section
variable {a b : Dy} (ha : mayD a = true) (la : Lim BB a.m) (hb : mayD b = true) (lb : Lim BB b.m)
include ha la hb lb
theorem order_anti : cmpD b a = - cmpD a b := by rw [cmpD_Z hb lb ha la, cmpD_Z ha la hb lb, cmpI_anti]
theorem order_same : sameD a b = (cmpD a b == 0) := by rw [sameD_Z ha la hb lb, cmpD_Z ha la hb lb, cmpI_zero]
theorem order_neg : cmpD (negS b) (negS a) = cmpD a b := by
  rw [cmpD_Z (negS_may hb) (negS_lim lb) (negS_may ha) (negS_lim la), cmpD_Z ha la hb lb, ZD_neg ha, ZD_neg hb, cmpI_neg]
theorem order_range : -1 ≤ cmpD a b ∧ cmpD a b ≤ 1 := by rw [cmpD_Z ha la hb lb]; exact cmpI_range _ _
theorem order_sub {d : Dy} (h : twoS a b (subS a b) = (d, 0)) : signD d = cmpD a b := by
  rw [twoS_of ha hb, subS_Z ha la hb lb] at h
  obtain ⟨h1, _, h3⟩ := fitZ_post h
  rw [signD_cmp h1, h3, cmpD_Z ha la hb lb, cmpI_sub]
theorem order_shift {x y : Dy} {n : Int} (hx : shiftS a n = (x, 0)) (hy : shiftS b n = (y, 0)) : cmpD x y = cmpD a b := by
  obtain ⟨x1, x2, x3⟩ := shiftS_post ha la hx
  obtain ⟨y1, y2, y3⟩ := shiftS_post hb lb hy
  have hS : (0 : Int) < ((2 ^ TT : Nat) : Int) := by have := Nat.two_pow_pos TT; omega
  have hR : (0 : Int) < ((2 ^ (n + (TT : Int)).toNat : Nat) : Int) := by have := Nat.two_pow_pos (n + (TT : Int)).toNat; omega
  rw [cmpD_Z x1 x2 y1 y2, cmpD_Z ha la hb lb]
  refine cmpI_scale hS hR ?_ ?_
  · rcases x3 with ⟨h0, rfl⟩ | ⟨_, _, h⟩
    · rw [ZD_nil h0, Int.zero_mul, Int.zero_mul]
    · exact h
  · rcases y3 with ⟨h0, rfl⟩ | ⟨_, _, h⟩
    · rw [ZD_nil h0, Int.zero_mul, Int.zero_mul]
    · exact h
end

end Go.Proofs.YteodljieiloebaaDoor
namespace Go.Proofs.YteodljieiloebaaDoor
open Go.RowKit Pl
attribute [local go_sem ↓] Go.wp_at_zero Go.wp_at_succ

theorem or_one {t : Nat} (h : t < BB) : bits .or .u64 (t : Int) 1 = ((t ||| 1 : Nat) : Int) := u64_or_nat t 1 h (by omega)
theorem or_one_lt {t : Nat} (h : t < BB) : t ||| 1 < BB := by
  rw [BB_eq] at *
  exact Nat.or_lt_two_pow h (by omega)
theorem or_one_odd (t : Nat) : (t ||| 1) % 2 = 1 := by
  have h := Nat.or_mod_two_pow (a := t) (b := 1) (n := 1)
  rw [Nat.pow_one] at h
  rw [h]
  rcases Nat.mod_two_eq_zero_or_one t with e | e <;> rw [e] <;> rfl
theorem may1L {x : Nat} (h : 0 < x) : mayN [x] = true := by
  have : ¬ x = 0 := by omega
  simp [mayN, nth, this]
theorem val1L (x : Nat) : val BB [x] = x := by simp [val]
theorem rdOne {W : World} {b x : Nat} {t : TypeId} (h : Box W b [.int .u64 (x : Int)] t) : RdN .u64 W (some ⟨b, 0, none⟩) 1 1 [x] :=
  ⟨rfl, Nat.le_refl _, by unfold maxLen; omega, fun _ => ⟨b, 0, rfl, h.lt, fun k hk => by
    obtain rfl : k = 0 := by omega
    exact h.cell 0 rfl⟩⟩
theorem far_cut (j : Int) : ∃ k : Nat, 5000 ≤ k ∧ k < 505000 ∧ wrap64 (5000 + wrap64 ((IntKind.u64.wrap j).tmod 500000)) = (k : Int) := by
  have h0 : 0 ≤ IntKind.u64.wrap j := by rw [IntKind.wrap_u64]; omega
  rw [Int.tmod_eq_emod_of_nonneg h0]
  have h1 : 0 ≤ IntKind.u64.wrap j % 500000 := Int.emod_nonneg _ (by omega)
  have h2 : IntKind.u64.wrap j % 500000 < 500000 := Int.emod_lt_of_pos _ (by omega)
  refine ⟨5000 + (IntKind.u64.wrap j % 500000).toNat, by omega, by omega, ?_⟩
  rw [IntWalk.wrap64_in (IntKind.u64.wrap j % 500000) (by omega), IntWalk.wrap64_in _ (by omega)]
  omega
theorem far_may {s t k : Nat} (hs : s % 2 = 1) (ht : t % 2 = 1) (hk1 : 5000 ≤ k) (hk2 : k < 505000) : mayD ⟨false, [s], (k : Int)⟩ = true ∧ mayD ⟨false, [t], -(k : Int)⟩ = true := by
  have hm : ∀ x, x % 2 = 1 → mayN [x] = true := fun x h => may1L (by omega)
  have h1 : ¬ (k : Int) < -1048576 := by omega
  refine ⟨?_, ?_⟩ <;> unfold mayD <;> simp only [List.length_cons, List.length_nil] <;> rw [if_neg (by omega)] <;> simp only [Bool.and_eq_true, decide_eq_true_eq]
  · exact ⟨⟨⟨hm s hs, hs⟩, by omega⟩, by omega⟩
  · exact ⟨⟨⟨hm t ht, ht⟩, by omega⟩, by omega⟩
theorem far_sumO {s t k : Nat} (hs : s % 2 = 1) (hk1 : 5000 ≤ k) (hk2 : k < 505000) (g1 g2 : Bool) : sumO ⟨g1, [s], (k : Int)⟩ ⟨g2, [t], -(k : Int)⟩ = (Dy.zero, 2) := by
  unfold sumO
  have e2 : val BB [s] = s := val1L s
  simp only
  rw [e2]
  have b1 : 1 ≤ blen s := blen_pos.2 (by omega)
  rw [if_neg (by rintro (h | h) <;> omega)]
theorem far_mag {s t k : Nat} (hs : s % 2 = 1) (ht : t % 2 = 1) (ht2 : t < BB) (hk1 : 5000 ≤ k) (hk2 : k < 505000) : magD ⟨false, [t], -(k : Int)⟩ < magD ⟨false, [s], (k : Int)⟩ := by
  obtain ⟨h1, h2⟩ := far_may hs ht hk1 hk2
  refine mag_lt h2 h1 (by simp) ?_
  have e1 : val BB [t] = t := val1L t
  have e2 : val BB [s] = s := val1L s
  simp only
  rw [e1, e2]
  have b1 : blen t ≤ 64 := by rw [blen_le, ← BB_eq]; exact ht2
  omega
theorem far_sum {s t k : Nat} (hs : s % 2 = 1) (ht : t % 2 = 1) (hk1 : 5000 ≤ k) (hk2 : k < 505000) : twoS ⟨false, [s], (k : Int)⟩ ⟨false, [t], -(k : Int)⟩ (sumS ⟨false, [s], (k : Int)⟩ ⟨false, [t], -(k : Int)⟩) = (Dy.zero, 2) := by
  obtain ⟨h1, h2⟩ := far_may hs ht hk1 hk2
  rw [twoS_of h1 h2]
  unfold sumS
  rw [if_neg (by simp), if_neg (by simp), if_neg (by simp only; omega)]
  exact far_sumO hs hk1 hk2 _ _
theorem far_sub {s t k : Nat} (hs : s % 2 = 1) (ht : t % 2 = 1) (hk1 : 5000 ≤ k) (hk2 : k < 505000) : twoS ⟨false, [t], -(k : Int)⟩ ⟨false, [s], (k : Int)⟩ (subS ⟨false, [t], -(k : Int)⟩ ⟨false, [s], (k : Int)⟩) = (Dy.zero, 2) := by
  obtain ⟨h1, h2⟩ := far_may hs ht hk1 hk2
  rw [twoS_of h2 h1]
  have hn : negS ⟨false, [s], (k : Int)⟩ = ⟨true, [s], (k : Int)⟩ := by unfold negS; rw [if_pos ⟨h1, by simp⟩]; rfl
  unfold subS sumS
  rw [hn, if_neg (by simp), if_neg (by simp), if_pos (by simp only; omega)]
  exact far_sumO hs hk1 hk2 _ _
section
variable {s t k : Nat} (hs : s % 2 = 1) (hs2 : s < BB) (ht : t % 2 = 1) (ht2 : t < BB) (hk1 : 5000 ≤ k) (hk2 : k < 505000)
include hs hs2 ht ht2 hk1 hk2
theorem far_cmp : cmpD ⟨false, [s], (k : Int)⟩ ⟨false, [t], -(k : Int)⟩ = 1 := by
  obtain ⟨h1, h2⟩ := far_may hs ht hk1 hk2
  have h3 := far_mag hs ht ht2 hk1 hk2
  rw [cmpD_Z h1 (Lim.cons hs2 Lim.nil) h2 (Lim.cons ht2 Lim.nil), ZD_mag, ZD_mag]
  generalize magD ⟨false, [t], -(k : Int)⟩ = x at *
  generalize magD ⟨false, [s], (k : Int)⟩ = y at *
  unfold cmpI
  simp only [sgI, Bool.false_eq_true, if_false]
  rw [if_neg (by omega), if_pos (by omega)]
theorem far_ncmp : cmpD (negS ⟨false, [s], (k : Int)⟩) ⟨false, [t], -(k : Int)⟩ = -1 := by
  obtain ⟨h1, h2⟩ := far_may hs ht hk1 hk2
  have p1 := magD_pos h1 (by simp)
  have p2 := magD_pos h2 (by simp)
  rw [cmpD_Z (negS_may h1) (negS_lim (Lim.cons hs2 Lim.nil)) h2 (Lim.cons ht2 Lim.nil), ZD_neg h1, ZD_mag, ZD_mag]
  generalize magD ⟨false, [t], -(k : Int)⟩ = x at *
  generalize magD ⟨false, [s], (k : Int)⟩ = y at *
  unfold cmpI
  simp only [sgI, Bool.false_eq_true, if_false]
  rw [if_pos (by omega)]
theorem far_mul : ∃ m, twoS ⟨false, [s], (k : Int)⟩ ⟨false, [t], -(k : Int)⟩ (mulS ⟨false, [s], (k : Int)⟩ ⟨false, [t], -(k : Int)⟩) = (m, 0) ∧ m.e = 0 := by
  obtain ⟨h1, h2⟩ := far_may hs ht hk1 hk2
  rw [twoS_of h1 h2]
  unfold mulS
  simp only
  rw [val1L, val1L]
  have ho : s * t % 2 = 1 := by rw [Nat.mul_mod, hs, ht]
  have hl : (limbs BB (s * t)).length ≤ 64 := by
    rw [limbs_len_le BB_gt1]
    have : s * t < BB * BB := Nat.mul_lt_mul'' hs2 ht2
    exact Nat.lt_of_lt_of_le this (by rw [← Nat.pow_two]; exact Nat.pow_le_pow_right BB_pos (by omega))
  refine ⟨⟨false, limbs BB (s * t), 0⟩, ?_, rfl⟩
  rw [fitS_eq (by intro e; rw [e] at ho; omega), tz_odd ho, Nat.pow_zero, Nat.div_one, if_neg (by omega), if_pos (by omega)]
  congr 2
  simp
  omega
end

end Go.Proofs.YteodljieiloebaaDoor
