/- The order of Dyads is that of their numbers; shifts. No program in sight. -/
import Derived.Test.YtaifjldpjkabjaaDoorDyP
namespace Go.Proofs.YtaifjldpjkabjaaDoor
open Go.RowKit Pl

/-- The order of whole numbers. -/
def cmpI (x y : Int) : Int := if x < y then -1 else if y < x then 1 else 0
/-- How great a Dyad is, without its sign, so scaled. -/
def magD (d : Dy) : Nat := val BB d.m * 2 ^ (d.e + (SS : Int)).toNat
theorem ZD_mag (d : Dy) : ZD d = sgI d.neg * ((magD d : Nat) : Int) := rfl
theorem magD_pos {d : Dy} (h : mayD d = true) (h0 : d.m.length ≠ 0) : 0 < magD d := Nat.mul_pos (Nat.pos_of_ne_zero (mayD_val h h0).2) (Nat.two_pow_pos _)
theorem signD_Z {d : Dy} (h : mayD d = true) : (signD d = 0 ∧ ZD d = 0 ∧ d.m.length = 0) ∨ (signD d = 1 ∧ 0 < ZD d ∧ d.neg = false ∧ d.m.length ≠ 0) ∨ (signD d = -1 ∧ ZD d < 0 ∧ d.neg = true ∧ d.m.length ≠ 0) := by
  unfold signD
  by_cases h0 : d.m.length = 0
  · exact .inl ⟨by simp [h0], ZD_nil h0, h0⟩
  · have hp := magD_pos h h0
    have e : (!mayD d || decide (d.m.length = 0)) = false := by simp [h, h0]
    rw [e, ZD_mag]
    cases hn : d.neg
    · exact .inr (.inl ⟨by simp, by simp [sgI]; omega, rfl, h0⟩)
    · exact .inr (.inr ⟨by simp, by simp [sgI]; omega, rfl, h0⟩)
theorem cmpN_mul {x y P : Nat} (hP : 0 < P) : cmpN (x * P) (y * P) = cmpN x y := by
  unfold cmpN
  simp only [Nat.mul_lt_mul_right hP]
theorem mag_lt {a b : Dy} (ha : mayD a = true) (hb : mayD b = true) (b0 : b.m.length ≠ 0) (h : (blen (val BB a.m) : Int) + a.e < (blen (val BB b.m) : Int) + b.e) : magD a < magD b := by
  obtain ⟨_, _, ae1, ae2⟩ := mayD_limbs ha
  obtain ⟨_, _, be1, be2⟩ := mayD_limbs hb
  obtain ⟨_, bv⟩ := mayD_val hb b0
  have h1 := blen_lt_pow (val BB a.m)
  have h2 := pow_le_blen bv
  have h3 := blen_pos.2 bv
  have hS := SS_eq
  unfold magD
  calc val BB a.m * 2 ^ (a.e + (SS : Int)).toNat < 2 ^ blen (val BB a.m) * 2 ^ (a.e + (SS : Int)).toNat := (Nat.mul_lt_mul_right (Nat.two_pow_pos _)).2 h1
    _ = 2 ^ (blen (val BB a.m) + (a.e + (SS : Int)).toNat) := by rw [Nat.pow_add]
    _ ≤ 2 ^ (blen (val BB b.m) - 1 + (b.e + (SS : Int)).toNat) := Nat.pow_le_pow_right (by omega) (by omega)
    _ = 2 ^ (blen (val BB b.m) - 1) * 2 ^ (b.e + (SS : Int)).toNat := by rw [Nat.pow_add]
    _ ≤ val BB b.m * 2 ^ (b.e + (SS : Int)).toNat := Nat.mul_le_mul_right _ h2
theorem cmpSize_mag {a b : Dy} (ha : mayD a = true) (la : Lim BB a.m) (hb : mayD b = true) (lb : Lim BB b.m) (a0 : a.m.length ≠ 0) (b0 : b.m.length ≠ 0) : cmpSize a b = cmpN (magD a) (magD b) := by
  obtain ⟨aC, _, ae1, ae2⟩ := mayD_limbs ha
  obtain ⟨bC, _, be1, be2⟩ := mayD_limbs hb
  have hS := SS_eq
  unfold cmpSize
  rw [sizeN_can la aC, sizeN_can lb bC]
  by_cases h1 : (blen (val BB a.m) : Int) + a.e < (blen (val BB b.m) : Int) + b.e
  · rw [if_pos h1]
    exact (cmpN_lt0 (mag_lt ha hb b0 h1)).symm
  · rw [if_neg h1]
    by_cases h2 : (blen (val BB b.m) : Int) + b.e < (blen (val BB a.m) : Int) + a.e
    · rw [if_pos h2]
      exact (cmpN_gt0 (mag_lt hb ha a0 h2)).symm
    · rw [if_neg h2, ← cmpN_mul (P := 2 ^ (min a.e b.e + (SS : Int)).toNat) (Nat.two_pow_pos _)]
      rw [pow_scale _ (Int.min_le_left _ _) (by omega), pow_scale _ (Int.min_le_right _ _) (by omega)]
      rfl
theorem cmpD_Z {a b : Dy} (ha : mayD a = true) (la : Lim BB a.m) (hb : mayD b = true) (lb : Lim BB b.m) : cmpD a b = cmpI (ZD a) (ZD b) := by
  unfold cmpD
  rw [if_neg (by rw [ha, hb]; simp)]
  unfold cmpI
  rcases signD_Z ha with ⟨s1, z1, n1⟩ | ⟨s1, z1, g1, n1⟩ | ⟨s1, z1, g1, n1⟩ <;> rcases signD_Z hb with ⟨s2, z2, n2⟩ | ⟨s2, z2, g2, n2⟩ | ⟨s2, z2, g2, n2⟩ <;> rw [s1, s2]
  · rw [z1, z2]; rfl
  · rw [if_pos (by omega), if_pos (by omega)]
  · rw [if_neg (by omega), if_pos (by omega), if_neg (by omega), if_pos (by omega)]
  · rw [if_neg (by omega), if_pos (by omega), if_neg (by omega), if_pos (by omega)]
  · have e1 : ZD a = ((magD a : Nat) : Int) := by rw [ZD_mag, g1]; simp [sgI]
    have e2 : ZD b = ((magD b : Nat) : Int) := by rw [ZD_mag, g2]; simp [sgI]
    rw [if_neg (by omega), if_neg (by omega), if_neg (by omega), cmpSize_mag ha la hb lb n1 n2, e1, e2]
    unfold cmpN
    rcases Nat.lt_trichotomy (magD a) (magD b) with h | h | h
    · rw [if_pos h, if_pos (by omega)]; rfl
    · rw [if_neg (by omega), if_neg (by omega), if_neg (by omega), if_neg (by omega)]; rfl
    · rw [if_neg (by omega), if_pos h, if_neg (by omega), if_pos (by omega)]; rfl
  · rw [if_neg (by omega), if_pos (by omega), if_neg (by omega), if_pos (by omega)]
  · rw [if_pos (by omega), if_pos (by omega)]
  · rw [if_pos (by omega), if_pos (by omega)]
  · have e1 : ZD a = -((magD a : Nat) : Int) := by rw [ZD_mag, g1]; simp [sgI]
    have e2 : ZD b = -((magD b : Nat) : Int) := by rw [ZD_mag, g2]; simp [sgI]
    rw [if_neg (by omega), if_neg (by omega), if_neg (by omega), cmpSize_mag ha la hb lb n1 n2, e1, e2]
    unfold cmpN
    rcases Nat.lt_trichotomy (magD a) (magD b) with h | h | h
    · rw [if_pos h, if_neg (by omega), if_pos (by omega)]; rfl
    · rw [if_neg (by omega), if_neg (by omega), if_neg (by omega), if_neg (by omega)]; rfl
    · rw [if_neg (by omega), if_pos h, if_pos (by omega)]; rfl
theorem signD_cmp {d : Dy} (h : mayD d = true) : signD d = cmpI (ZD d) 0 := by
  unfold cmpI
  rcases signD_Z h with ⟨s1, z1, n1⟩ | ⟨s1, z1, g1, n1⟩ | ⟨s1, z1, g1, n1⟩ <;> rw [s1]
  · rw [z1]; rfl
  · rw [if_neg (by omega), if_pos (by omega)]
  · rw [if_pos (by omega)]
theorem sameD_Z {a b : Dy} (ha : mayD a = true) (la : Lim BB a.m) (hb : mayD b = true) (lb : Lim BB b.m) : sameD a b = decide (ZD a = ZD b) := by
  by_cases h : ZD a = ZD b
  · rw [ZD_inj ha la hb lb h, sameD_self]; simp
  · rw [decide_eq_false h]
    rw [Bool.eq_false_iff]
    intro e
    exact h (by rw [sameD_iff.1 e])
def TT : Nat := 2097152
theorem TT_eq : (TT : Int) = 2097152 := rfl
/-- A shifted one: its number times a power. -/
theorem shiftS_post {d x : Dy} {n : Int} (h : mayD d = true) (hl : Lim BB d.m) (hx : shiftS d n = (x, 0)) :
    mayD x = true ∧ Lim BB x.m ∧ ((d.m.length = 0 ∧ x = d) ∨ (-2097152 ≤ n ∧ n ≤ 2097152 ∧ ZD x * ((2 ^ TT : Nat) : Int) = ZD d * ((2 ^ (n + (TT : Int)).toNat : Nat) : Int))) := by
  unfold shiftS at hx
  rw [if_neg (by simp [h])] at hx
  by_cases h0 : d.m.length = 0
  · rw [if_pos h0] at hx
    obtain rfl := (Prod.mk.inj hx).1
    exact ⟨h, hl, .inl ⟨h0, rfl⟩⟩
  · rw [if_neg h0] at hx
    by_cases hn : n ≤ 2097152 ∧ -2097152 ≤ n
    · rw [if_neg (by simpa using hn)] at hx
      obtain ⟨_, _, e1, e2⟩ := mayD_limbs h
      have hS := SS_eq
      have hT := TT_eq
      obtain ⟨p1, p2, p3⟩ := fit_post (by omega) hx
      refine ⟨p1, p2, .inr ⟨hn.2, hn.1, ?_⟩⟩
      rw [p3]
      unfold ZD
      have hp : (2 : Nat) ^ (d.e + n + (SS : Int)).toNat * 2 ^ TT = 2 ^ (d.e + (SS : Int)).toNat * 2 ^ (n + (TT : Int)).toNat := by
        rw [← Nat.pow_add, ← Nat.pow_add]
        congr 1
        omega
      generalize (2 : Nat) ^ TT = S at *
      generalize (2 : Nat) ^ (d.e + n + (SS : Int)).toNat = P at *
      generalize (2 : Nat) ^ (d.e + (SS : Int)).toNat = Q at *
      generalize (2 : Nat) ^ (n + (TT : Int)).toNat = R at *
      have hp2 : (P : Int) * (S : Int) = (Q : Int) * (R : Int) := by rw [← Int.natCast_mul, hp, Int.natCast_mul]
      simp only [Int.natCast_mul]
      rw [Int.mul_assoc, Int.mul_assoc, hp2]
      simp only [Int.mul_assoc]
    · rw [if_pos hn] at hx
      have := (Prod.mk.inj hx).2
      omega
theorem cmpI_scale {x y S R x' y' : Int} (hS : 0 < S) (hR : 0 < R) (hx : x' * S = x * R) (hy : y' * S = y * R) : cmpI x' y' = cmpI x y := by
  have k1 : x' < y' ↔ x < y := by
    rw [← Int.mul_lt_mul_right hS, hx, hy, Int.mul_lt_mul_right hR]
  have k2 : y' < x' ↔ y < x := by
    rw [← Int.mul_lt_mul_right hS, hx, hy, Int.mul_lt_mul_right hR]
  unfold cmpI
  simp only [k1, k2]
end Go.Proofs.YtaifjldpjkabjaaDoor
