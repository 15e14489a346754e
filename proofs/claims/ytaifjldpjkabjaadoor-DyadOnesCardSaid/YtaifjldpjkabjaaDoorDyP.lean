/- Dyads as whole numbers, scaled by one power of two: sums, products, order. No program in sight. -/
import Derived.Test.YtaifjldpjkabjaaDoorDyN
namespace Go.Proofs.YtaifjldpjkabjaaDoor
open Go.RowKit Pl

/-- The sign as a number. -/
def sgI (n : Bool) : Int := if n then -1 else 1
/-- The scale: 2^8388608, behind a plain name. -/
def SS : Nat := 8388608
theorem SS_eq : (SS : Int) = 8388608 := rfl
/-- The number of a Dyad, times 2^SS. -/
def ZD (d : Dy) : Int := sgI d.neg * ((val BB d.m * 2 ^ (d.e + (SS : Int)).toNat : Nat) : Int)
/-- The Dyad of a number that is so scaled. -/
def fitZ (n : Int) : Dy × Int := fitS (decide (n < 0)) n.natAbs (-(SS : Int))

theorem fitS_zero (neg : Bool) (e : Int) : fitS neg 0 e = (Dy.zero, 0) := by unfold fitS; rw [if_pos rfl]
theorem fitS_eq {neg : Bool} {n : Nat} {e : Int} (h0 : n ≠ 0) : fitS neg n e =
    if ¬ (limbs BB (n / 2 ^ tz n)).length ≤ 64 then (Dy.zero, 2)
    else if -1048576 ≤ e + (tz n : Int) ∧ e + (tz n : Int) ≤ 1048576 then (⟨neg, limbs BB (n / 2 ^ tz n), e + (tz n : Int)⟩, 0) else (Dy.zero, 3) := by
  unfold fitS
  rw [if_neg h0]
  split
  · rfl
  · by_cases h1 : -1048576 ≤ e + (tz n : Int) ∧ e + (tz n : Int) ≤ 1048576
    · rw [if_pos h1, if_neg (by omega), if_neg (by omega)]
    · rw [if_neg h1]
      split
      · rfl
      · rw [if_pos (by omega)]
theorem fitS_shift (neg : Bool) (n k : Nat) (e : Int) : fitS neg (n * 2 ^ k) (e - (k : Int)) = fitS neg n e := by
  rcases Nat.eq_zero_or_pos n with rfl | h0
  · rw [Nat.zero_mul, fitS_zero, fitS_zero]
  · have h1 : n * 2 ^ k ≠ 0 := by have := Nat.mul_pos h0 (Nat.two_pow_pos k); omega
    rw [fitS_eq h1, fitS_eq (by omega), tz_mul_pow (by omega)]
    have h2 : n * 2 ^ k / 2 ^ (tz n + k) = n / 2 ^ tz n := by
      rw [Nat.pow_add, Nat.mul_div_mul_right _ _ (Nat.two_pow_pos k)]
    have h3 : e - (k : Int) + ((tz n + k : Nat) : Int) = e + (tz n : Int) := by omega
    rw [h2, h3]
theorem sgI_cases (b : Bool) : sgI b = -1 ∧ b = true ∨ sgI b = 1 ∧ b = false := by cases b <;> simp [sgI]
theorem sg_nat (neg : Bool) (n : Nat) (h0 : n ≠ 0) : decide (sgI neg * (n : Int) < 0) = neg ∧ (sgI neg * (n : Int)).natAbs = n := by
  cases neg <;> simp [sgI] <;> omega
theorem fitS_Z {neg : Bool} {n : Nat} {e : Int} (he : -8388608 ≤ e) : fitS neg n e = fitZ (sgI neg * ((n * 2 ^ (e + (SS : Int)).toNat : Nat) : Int)) := by
  unfold fitZ
  rcases Nat.eq_zero_or_pos n with rfl | h0
  · rw [Nat.zero_mul, fitS_zero]
    simp [fitS_zero]
  · have h1 : n * 2 ^ (e + (SS : Int)).toNat ≠ 0 := by have := Nat.mul_pos h0 (Nat.two_pow_pos (e + (SS : Int)).toNat); omega
    obtain ⟨g1, g2⟩ := sg_nat neg _ h1
    rw [g1, g2]
    have h2 := fitS_shift neg n (e + (SS : Int)).toNat e
    rw [show e - ((e + (SS : Int)).toNat : Int) = -(SS : Int) by have := SS_eq; omega] at h2
    exact h2.symm
theorem val_mod2 {xs : List Nat} : val BB xs % 2 = nth xs 0 % 2 := by
  cases xs with
  | nil => rfl
  | cons x xs =>
    simp only [val, nth, List.getD_cons_zero]
    have : BB = 2 * 2 ^ 63 := by decide
    rw [this, Nat.mul_assoc, Nat.add_mul_mod_self_left]
theorem mayN_of {xs : List Nat} (h : Cnl xs) (hl : xs.length ≤ 64) : mayN xs = true := by
  unfold mayN
  rcases Nat.eq_zero_or_pos xs.length with h0 | h0
  · rw [h0]; rfl
  · have h3 : nth xs (xs.length - 1) ≠ 0 := by
      intro h4
      refine h ?_
      rw [List.getLast?_eq_getElem?]
      unfold nth at h4
      rw [List.getD_eq_getElem?_getD, List.getElem?_eq_getElem (by omega)] at h4
      rw [List.getElem?_eq_getElem (by omega)]
      simpa using h4
    simp [hl, h3]
/-- What a Dyad is that comes out. -/
theorem fit_post {neg : Bool} {n : Nat} {e : Int} {d : Dy} (he : -8388608 ≤ e) (h : fitS neg n e = (d, 0)) : mayD d = true ∧ Lim BB d.m ∧ ZD d = sgI neg * ((n * 2 ^ (e + (SS : Int)).toNat : Nat) : Int) := by
  rcases Nat.eq_zero_or_pos n with rfl | h0
  · rw [fitS_zero] at h
    obtain rfl : Dy.zero = d := (Prod.mk.inj h).1
    exact ⟨by decide, Lim.nil, by simp [ZD, Dy.zero]⟩
  · rw [fitS_eq (by omega)] at h
    split at h
    · have := (Prod.mk.inj h).2; omega
    · rename_i hl
      split at h
      · rename_i hr
        obtain rfl := (Prod.mk.inj h).1
        obtain ⟨o1, o2⟩ := odd_part (n := n) (by omega)
        have hm0 : n / 2 ^ tz n ≠ 0 := by intro e0; rw [e0] at o2; omega
        have hlen : (limbs BB (n / 2 ^ tz n)).length ≠ 0 := fun e0 => hm0 ((limbs_eq_nil BB_gt1).1 (List.length_eq_zero_iff.1 e0))
        refine ⟨?_, limbs_lim BB_gt1 _, ?_⟩
        · unfold mayD
          simp only
          rw [if_neg hlen, mayN_of (limbs_can BB_gt1 _) (by omega)]
          have : nth (limbs BB (n / 2 ^ tz n)) 0 % 2 = 1 := by rw [← val_mod2, limbs_val BB_gt1]; exact o2
          simp [this, hr.1, hr.2]
        · unfold ZD
          simp only
          rw [limbs_val BB_gt1]
          congr 2
          rw [show (e + (tz n : Int) + (SS : Int)).toNat = tz n + (e + (SS : Int)).toNat by have := SS_eq; omega, Nat.pow_add, ← Nat.mul_assoc, Nat.mul_comm (n / 2 ^ tz n)]
          rw [← o1]
      · have := (Prod.mk.inj h).2; omega
theorem mayD_zero {d : Dy} (h : mayD d = true) (h0 : d.m.length = 0) : d = Dy.zero := by
  unfold mayD at h
  rw [if_pos h0] at h
  obtain ⟨n, m, e⟩ := d
  simp only [Bool.and_eq_true, decide_eq_true_eq] at h h0
  obtain rfl := List.length_eq_zero_iff.1 h0
  cases n
  · rw [h.2]; rfl
  · simp at h
theorem mayD_val {d : Dy} (h : mayD d = true) (h0 : d.m.length ≠ 0) : val BB d.m % 2 = 1 ∧ val BB d.m ≠ 0 := by
  have ho : val BB d.m % 2 = 1 := by
    rw [val_mod2]
    unfold mayD at h
    rw [if_neg h0] at h
    simp only [Bool.and_eq_true, decide_eq_true_eq] at h
    exact h.1.1.2
  exact ⟨ho, fun e => by rw [e] at ho; omega⟩
/-- A Dyad that may be comes out as it is. -/
theorem fit_may {d : Dy} (hl : Lim BB d.m) (h : mayD d = true) : fitS d.neg (val BB d.m) d.e = (d, 0) := by
  by_cases h0 : d.m.length = 0
  · rw [mayD_zero h h0]
    exact fitS_zero _ _
  · obtain ⟨ho, hv⟩ := mayD_val h h0
    obtain ⟨hC, h64, he1, he2⟩ := mayD_limbs h
    rw [fitS_eq hv, tz_odd ho, Nat.pow_zero, Nat.div_one, limbs_of BB_gt1 hl hC rfl, if_neg (by omega), if_pos (by omega)]
    simp
theorem fit_Z {d : Dy} (hl : Lim BB d.m) (h : mayD d = true) : fitZ (ZD d) = (d, 0) := by
  rw [← fit_may hl h, fitS_Z (by have := (mayD_limbs h).2.2; omega)]
  rfl
theorem ZD_inj {a b : Dy} (ha : mayD a = true) (la : Lim BB a.m) (hb : mayD b = true) (lb : Lim BB b.m) (h : ZD a = ZD b) : a = b := by
  have h1 := fit_Z la ha
  rw [h, fit_Z lb hb] at h1
  exact (Prod.mk.inj h1).1.symm
theorem ZD_zero : ZD Dy.zero = 0 := by simp [ZD, Dy.zero]
theorem ZD_nil {d : Dy} (h0 : d.m.length = 0) : ZD d = 0 := by
  unfold ZD
  rw [List.length_eq_zero_iff.1 h0]
  simp
theorem ZD_neg {d : Dy} (h : mayD d = true) : ZD (negS d) = - ZD d := by
  unfold negS
  by_cases h0 : d.m.length = 0
  · rw [if_neg (by simp [h0]), ZD_nil h0]; rfl
  · rw [if_pos ⟨h, h0⟩]
    unfold ZD
    simp only
    cases d.neg <;> simp [sgI]
theorem big_len {n : Nat} (h : BB ^ 64 ≤ n) : ¬ (limbs BB n).length ≤ 64 := by
  rw [limbs_len_le BB_gt1]
  omega
theorem far_aux {j a P Q : Nat} (hP : P = 2 ^ j) (h : j + 1 ≤ a) (hq : 2 ^ a ≤ Q) : 2 * P ≤ Q := by
  have h3 : 2 ^ (j + 1) ≤ 2 ^ a := Nat.pow_le_pow_right (by omega) h
  rw [Nat.pow_succ, ← hP] at h3
  omega
/-- Far from each other: too long. -/
theorem far_big {A B k : Nat} (hA : A ≠ 0) (hB : B % 2 = 1) (hBl : B < BB ^ 64) (hk : 1 ≤ k) (hf : 4098 ≤ blen A + k) (neg : Bool) (e : Int) :
    fitS neg (A * 2 ^ k + B) e = (Dy.zero, 2) ∧ B ≤ A * 2 ^ k ∧ fitS neg (A * 2 ^ k - B) e = (Dy.zero, 2) := by
  have h1 := pow_le_blen hA
  have hp := blen_pos.2 hA
  have h2 : 2 ^ (blen A - 1) * 2 ^ k ≤ A * 2 ^ k := Nat.mul_le_mul_right _ h1
  rw [← Nat.pow_add] at h2
  have h3 := far_aux (pow_BB 64) (by omega) h2
  have h5 : A * 2 ^ k % 2 = 0 := by
    rw [show k = (k - 1) + 1 by omega, Nat.pow_succ, ← Nat.mul_assoc]
    exact Nat.mul_mod_left _ _
  have hbl := @big_len
  generalize BB ^ 64 = P at *
  generalize A * 2 ^ k = Q at *
  have key : ∀ n, n % 2 = 1 → P ≤ n → fitS neg n e = (Dy.zero, 2) := by
    intro n ho hn
    rw [fitS_eq (by omega), tz_odd ho, Nat.pow_zero, Nat.div_one, if_pos (hbl hn)]
  exact ⟨key _ (by omega) (by omega), by omega, key _ (by omega) (by omega)⟩
theorem pow_scale (A : Nat) {a b : Int} (h : b ≤ a) (hb : -8388608 ≤ b) : A * 2 ^ (a - b).toNat * 2 ^ (b + (SS : Int)).toNat = A * 2 ^ (a + (SS : Int)).toNat := by
  rw [Nat.mul_assoc, ← Nat.pow_add]
  congr 2
  have := SS_eq
  omega
theorem sumO_Z {a b : Dy} (ha : mayD a = true) (hb : mayD b = true) (lb : Lim BB b.m) (a0 : a.m.length ≠ 0) (b0 : b.m.length ≠ 0) (hle : b.e ≤ a.e) : sumO a b = fitZ (ZD a + ZD b) := by
  obtain ⟨ao, av⟩ := mayD_val ha a0
  obtain ⟨bo, bv⟩ := mayD_val hb b0
  obtain ⟨_, _, ae1, ae2⟩ := mayD_limbs ha
  obtain ⟨_, b64, be1, be2⟩ := mayD_limbs hb
  have hs := pow_scale (val BB a.m) hle (by omega)
  have hbl : val BB b.m < BB ^ 64 := Nat.lt_of_lt_of_le (val_lt lb) (Nat.pow_le_pow_right BB_pos b64)
  have ea : ZD a = sgI a.neg * ((val BB a.m * 2 ^ (a.e - b.e).toNat * 2 ^ (b.e + (SS : Int)).toNat : Nat) : Int) := by unfold ZD; rw [hs]
  have eb : ZD b = sgI b.neg * ((val BB b.m * 2 ^ (b.e + (SS : Int)).toNat : Nat) : Int) := rfl
  have hF := fun (h1 : 1 ≤ (a.e - b.e).toNat) (h2 : 4098 ≤ blen (val BB a.m) + (a.e - b.e).toNat) neg e => far_big (k := (a.e - b.e).toNat) av bo hbl h1 h2 neg e
  rw [ea, eb]
  unfold sumO
  generalize (val BB a.m * 2 ^ (a.e - b.e).toNat) = Q at *
  generalize hP : 2 ^ (b.e + (SS : Int)).toNat = P at *
  have hZ := fun neg n => fitS_Z (neg := neg) (n := n) (e := b.e) (by omega)
  rw [hP] at hZ
  have c1 : sgI a.neg * ((Q * P : Nat) : Int) + sgI a.neg * ((val BB b.m * P : Nat) : Int) = sgI a.neg * (((Q + val BB b.m) * P : Nat) : Int) := by rw [Nat.add_mul, ← Int.mul_add, ← Int.natCast_add]
  have c2 : val BB b.m ≤ Q → a.neg ≠ b.neg → sgI a.neg * ((Q * P : Nat) : Int) + sgI b.neg * ((val BB b.m * P : Nat) : Int) = sgI a.neg * (((Q - val BB b.m) * P : Nat) : Int) := by
    intro h1 h2
    have h3 : val BB b.m * P ≤ Q * P := Nat.mul_le_mul_right _ h1
    rw [Nat.sub_mul, Int.ofNat_sub h3]
    rcases sgI_cases a.neg with ⟨g1, g2⟩ | ⟨g1, g2⟩ <;> rcases sgI_cases b.neg with ⟨g3, g4⟩ | ⟨g3, g4⟩ <;> rw [g1, g3] <;> first | exact absurd (g2.trans g4.symm) h2 | (generalize ((Q * P : Nat) : Int) = T1; generalize ((val BB b.m * P : Nat) : Int) = T2; omega)
  have c3 : ¬ val BB b.m ≤ Q → a.neg ≠ b.neg → sgI a.neg * ((Q * P : Nat) : Int) + sgI b.neg * ((val BB b.m * P : Nat) : Int) = sgI b.neg * (((val BB b.m - Q) * P : Nat) : Int) := by
    intro h1 h2
    have h3 : Q * P ≤ val BB b.m * P := Nat.mul_le_mul_right _ (by omega)
    rw [Nat.sub_mul, Int.ofNat_sub h3]
    rcases sgI_cases a.neg with ⟨g1, g2⟩ | ⟨g1, g2⟩ <;> rcases sgI_cases b.neg with ⟨g3, g4⟩ | ⟨g3, g4⟩ <;> rw [g1, g3] <;> first | exact absurd (g2.trans g4.symm) h2 | (generalize ((Q * P : Nat) : Int) = T1; generalize ((val BB b.m * P : Nat) : Int) = T2; omega)
  by_cases hn : a.e = b.e ∨ a.e - b.e ≤ 4097 - (blen (val BB a.m) : Int)
  · rw [if_pos hn]
    by_cases hg : a.neg = b.neg
    · rw [if_pos hg, hZ, ← hg, c1]
    · rw [if_neg hg]
      by_cases hq : val BB b.m ≤ Q
      · rw [if_pos hq, hZ, c2 hq hg]
      · rw [if_neg hq, hZ, c3 hq hg]
  · rw [if_neg hn]
    obtain ⟨f1, f2, f3⟩ := hF (by omega) (by omega) a.neg b.e
    by_cases hg : a.neg = b.neg
    · rw [← hg, c1, ← hZ, f1]
    · rw [c2 f2 hg, ← hZ, f3]
theorem sumS_Z {a b : Dy} (ha : mayD a = true) (la : Lim BB a.m) (hb : mayD b = true) (lb : Lim BB b.m) : sumS a b = fitZ (ZD a + ZD b) := by
  unfold sumS
  by_cases a0 : a.m.length = 0
  · rw [if_pos a0, ZD_nil a0, Int.zero_add, fit_Z lb hb]
  · rw [if_neg a0]
    by_cases b0 : b.m.length = 0
    · rw [if_pos b0, ZD_nil b0, Int.add_zero, fit_Z la ha]
    · rw [if_neg b0]
      by_cases hlt : a.e < b.e
      · rw [if_pos hlt, sumO_Z hb ha la b0 a0 (by omega), Int.add_comm]
      · rw [if_neg hlt, sumO_Z ha hb lb a0 b0 (by omega)]
theorem fitZ_post {n : Int} {d : Dy} (h : fitZ n = (d, 0)) : mayD d = true ∧ Lim BB d.m ∧ ZD d = n := by
  obtain ⟨h1, h2, h3⟩ := fit_post (by have := SS_eq; omega) h
  refine ⟨h1, h2, ?_⟩
  rw [h3, show (-(SS : Int) + (SS : Int)).toNat = 0 by omega, Nat.pow_zero, Nat.mul_one]
  by_cases hn : n < 0
  · simp [hn, sgI]; omega
  · simp [hn, sgI]; omega
theorem negS_lim {d : Dy} (h : Lim BB d.m) : Lim BB (negS d).m := by rw [negS_m]; exact h
theorem subS_Z {a b : Dy} (ha : mayD a = true) (la : Lim BB a.m) (hb : mayD b = true) (lb : Lim BB b.m) : subS a b = fitZ (ZD a - ZD b) := by
  unfold subS
  rw [sumS_Z ha la (negS_may hb) (negS_lim lb), ZD_neg hb, Int.sub_eq_add_neg]
theorem twoS_of {a b : Dy} {r : Dy × Int} (ha : mayD a = true) (hb : mayD b = true) : twoS a b r = r := by unfold twoS; rw [ha, hb]; rfl
theorem mulS_post {a b d : Dy} (ha : mayD a = true) (hb : mayD b = true) (h : mulS a b = (d, 0)) : mayD d = true ∧ Lim BB d.m ∧ ZD d * ((2 ^ SS : Nat) : Int) = ZD a * ZD b := by
  obtain ⟨_, _, ae1, ae2⟩ := mayD_limbs ha
  obtain ⟨_, _, be1, be2⟩ := mayD_limbs hb
  obtain ⟨h1, h2, h3⟩ := fit_post (by omega) h
  refine ⟨h1, h2, ?_⟩
  rw [h3]
  unfold ZD
  have hp : (2 : Nat) ^ (a.e + b.e + (SS : Int)).toNat * 2 ^ SS = 2 ^ (a.e + (SS : Int)).toNat * 2 ^ (b.e + (SS : Int)).toNat := by
    rw [← Nat.pow_add, ← Nat.pow_add]
    congr 1
    have := SS_eq
    omega
  have hs : sgI (a.neg != b.neg) = sgI a.neg * sgI b.neg := by cases a.neg <;> cases b.neg <;> rfl
  generalize (2 : Nat) ^ SS = S at *
  generalize (2 : Nat) ^ (a.e + b.e + (SS : Int)).toNat = P at *
  generalize (2 : Nat) ^ (a.e + (SS : Int)).toNat = Q at *
  generalize (2 : Nat) ^ (b.e + (SS : Int)).toNat = R at *
  have hp2 : (P : Int) * (S : Int) = (Q : Int) * (R : Int) := by rw [← Int.natCast_mul, hp, Int.natCast_mul]
  rw [hs]
  simp only [Int.natCast_mul]
  calc sgI a.neg * sgI b.neg * ((val BB a.m : Int) * (val BB b.m : Int) * (P : Int)) * (S : Int)
      = sgI a.neg * sgI b.neg * ((val BB a.m : Int) * (val BB b.m : Int)) * ((P : Int) * (S : Int)) := by simp only [Int.mul_assoc]
    _ = sgI a.neg * sgI b.neg * ((val BB a.m : Int) * (val BB b.m : Int)) * ((Q : Int) * (R : Int)) := by rw [hp2]
    _ = sgI a.neg * ((val BB a.m : Int) * (Q : Int)) * (sgI b.neg * ((val BB b.m : Int) * (R : Int))) := by
      simp only [Int.mul_assoc, Int.mul_left_comm, Int.mul_comm]
end Go.Proofs.YtaifjldpjkabjaaDoor
