/- Contracts of package dyad, part M: two, Add, Sub, Mul. Printed by wip/mk_DyM.py. Contracts of package dyad, part N: Of; what sums, products, shifts return, as numbers behind letters. Dyads as whole numbers, scaled by one power of two: sums, products, order. No program in sight. The order of Dyads is that of their numbers; shifts. No program in sight. sluicewaylaw2: Few, told. Printed by wip/mk_L2A.py. sluicewaylaw2: the walk of DyadRing. Printed by wip/mk_L2B.py. -/
import Derived.Test.YtpkfjfpknbhekaaDyJx
import Derived.Deep.RegionHeld2
namespace Go.Proofs.Ytpkfjfpknbhekaa
open Go.RowKit Pl
attribute [local go_sem ↓] Go.wp_at_zero Go.wp_at_succ

end Go.Proofs.Ytpkfjfpknbhekaa
namespace Go.Proofs.Ytpkfjfpknbhekaa
open Go.RowKit Pl

/-- A Dyad and its mark, as a face returns them. -/
def DyTup (w : World) (e : Ending) (r : Dy × Int) : Prop := ∃ (d : Dy) (x : Int) (A : Option Addr) (n c : Nat), Hid ((d, x) = r) ∧ e = .returned (.tuple #[.agg #[.bool d.neg, .slice A n c, .int .i64 d.e], .int .i64 x]) ∧ RdD w (.agg #[.bool d.neg, .slice A n c, .int .i64 d.e]) d
theorem FacePost.tup {w w' : World} {r : Dy × Int} {e : Ending} (h : FacePost w r e w') : DyTup w' e r ∧ Below w.heap.size w w' := by
  obtain ⟨hb, v, he, hv⟩ := h
  obtain ⟨A, n, c, hv0, hv1⟩ := hv
  exact ⟨⟨r.1, r.2, A, n, c, rfl, by rw [he, hv0], A, n, c, rfl, hv1⟩, hb⟩
/-- A Dyad, as a function returns it. -/
def DyRet (w : World) (e : Ending) (d : Dy) : Prop := ∃ (A : Option Addr) (n c : Nat), e = .returned (.agg #[.bool d.neg, .slice A n c, .int .i64 d.e]) ∧ RdD w (.agg #[.bool d.neg, .slice A n c, .int .i64 d.e]) d
theorem DyRet.of {w : World} {e : Ending} {d : Dy} (h : ∃ z, e = .returned z ∧ RdD w z d) : DyRet w e d := by
  obtain ⟨z, he, A, n, c, rfl, hr⟩ := h
  exact ⟨A, n, c, he, A, n, c, rfl, hr⟩
section
variable (u v : Value) (a b : Dy) (w : World) (h : RdD w u a) (k : RdD w v b)
end

end Go.Proofs.Ytpkfjfpknbhekaa
namespace Go.Proofs.Ytpkfjfpknbhekaa
open Go.RowKit Pl

/-- The sign as a number. -/
def sgI (n : Bool) : Int := if n then -1 else 1
/-- The scale: 2^8388608, behind a plain name. -/
def SS : Nat := 8388608
theorem SS_eq : (SS : Int) = 8388608 := rfl
/-- The number of a Dyad, times 2^SS. -/
def ZD (d : Dy) : Int := sgI d.neg * ((val BB d.m * 2 ^ (d.e + (SS : Int)).toNat : Nat) : Int)
theorem val_mod2 {xs : List Nat} : val BB xs % 2 = nth xs 0 % 2 := by
  cases xs with
  | nil => rfl
  | cons x xs =>
    simp only [val, nth, List.getD_cons_zero]
    have : BB = 2 * 2 ^ 63 := by decide
    rw [this, Nat.mul_assoc, Nat.add_mul_mod_self_left]
theorem mayD_val {d : Dy} (h : mayD d = true) (h0 : d.m.length ≠ 0) : val BB d.m % 2 = 1 ∧ val BB d.m ≠ 0 := by
  have ho : val BB d.m % 2 = 1 := by
    rw [val_mod2]
    unfold mayD at h
    rw [if_neg h0] at h
    simp only [Bool.and_eq_true, decide_eq_true_eq] at h
    exact h.1.1.2
  exact ⟨ho, fun e => by rw [e] at ho; omega⟩
theorem ZD_nil {d : Dy} (h0 : d.m.length = 0) : ZD d = 0 := by
  unfold ZD
  rw [List.length_eq_zero_iff.1 h0]
  simp
theorem pow_scale (A : Nat) {a b : Int} (h : b ≤ a) (hb : -8388608 ≤ b) : A * 2 ^ (a - b).toNat * 2 ^ (b + (SS : Int)).toNat = A * 2 ^ (a + (SS : Int)).toNat := by
  rw [Nat.mul_assoc, ← Nat.pow_add]
  congr 2
  have := SS_eq
  omega
end Go.Proofs.Ytpkfjfpknbhekaa
namespace Go.Proofs.Ytpkfjfpknbhekaa
open Go.RowKit Pl

/-- The order of whole numbers. -/
def cmpI (x y : Int) : Int := if x < y then -1 else if y < x then 1 else 0
/-- How great a Dyad is, without its sign, so scaled. -/
def magD (d : Dy) : Nat := val BB d.m * 2 ^ (d.e + (SS : Int)).toNat
theorem ZD_mag (d : Dy) : ZD d = sgI d.neg * ((magD d : Nat) : Int) := rfl
theorem magD_pos {d : Dy} (h : mayD d = true) (h0 : d.m.length ≠ 0) : 0 < magD d := Nat.mul_pos (Nat.pos_of_ne_zero (mayD_val h h0).2) (Nat.two_pow_pos _)
theorem signD_Z {d : Dy} (h : mayD d = true) : (signD d = 0 ∧ ZD d = 0 ∧ d.m.length = 0) ∨ (signD d = 1 ∧ 0 < ZD d ∧ d.neg = false ∧ d.m.length ≠ 0) ∨ (signD d = -1 ∧ ZD d < 0 ∧ d.neg = true ∧ d.m.length ≠ 0) := by
  unfold signD
  by_cases h0 : d.m.length = 0
  · exact .inl ⟨by simp [h0], ZD_nil h0, h0⟩
  · have hp := magD_pos h h0
    have e : (!mayD d || decide (d.m.length = 0)) = false := by simp [h, h0]
    rw [e, ZD_mag]
    cases hn : d.neg
    · exact .inr (.inl ⟨by simp, by simp [sgI]; omega, rfl, h0⟩)
    · exact .inr (.inr ⟨by simp, by simp [sgI]; omega, rfl, h0⟩)
theorem cmpN_mul {x y P : Nat} (hP : 0 < P) : cmpN (x * P) (y * P) = cmpN x y := by
  unfold cmpN
  simp only [Nat.mul_lt_mul_right hP]
theorem mag_lt {a b : Dy} (ha : mayD a = true) (hb : mayD b = true) (b0 : b.m.length ≠ 0) (h : (blen (val BB a.m) : Int) + a.e < (blen (val BB b.m) : Int) + b.e) : magD a < magD b := by
  obtain ⟨_, _, ae1, ae2⟩ := mayD_limbs ha
  obtain ⟨_, _, be1, be2⟩ := mayD_limbs hb
  obtain ⟨_, bv⟩ := mayD_val hb b0
  have h1 := blen_lt_pow (val BB a.m)
  have h2 := pow_le_blen bv
  have h3 := blen_pos.2 bv
  have hS := SS_eq
  unfold magD
  calc val BB a.m * 2 ^ (a.e + (SS : Int)).toNat < 2 ^ blen (val BB a.m) * 2 ^ (a.e + (SS : Int)).toNat := (Nat.mul_lt_mul_right (Nat.two_pow_pos _)).2 h1
    _ = 2 ^ (blen (val BB a.m) + (a.e + (SS : Int)).toNat) := by rw [Nat.pow_add]
    _ ≤ 2 ^ (blen (val BB b.m) - 1 + (b.e + (SS : Int)).toNat) := Nat.pow_le_pow_right (by omega) (by omega)
    _ = 2 ^ (blen (val BB b.m) - 1) * 2 ^ (b.e + (SS : Int)).toNat := by rw [Nat.pow_add]
    _ ≤ val BB b.m * 2 ^ (b.e + (SS : Int)).toNat := Nat.mul_le_mul_right _ h2
theorem cmpSize_mag {a b : Dy} (ha : mayD a = true) (la : Lim BB a.m) (hb : mayD b = true) (lb : Lim BB b.m) (a0 : a.m.length ≠ 0) (b0 : b.m.length ≠ 0) : cmpSize a b = cmpN (magD a) (magD b) := by
  obtain ⟨aC, _, ae1, ae2⟩ := mayD_limbs ha
  obtain ⟨bC, _, be1, be2⟩ := mayD_limbs hb
  have hS := SS_eq
  unfold cmpSize
  rw [sizeN_can la aC, sizeN_can lb bC]
  by_cases h1 : (blen (val BB a.m) : Int) + a.e < (blen (val BB b.m) : Int) + b.e
  · rw [if_pos h1]
    exact (cmpN_lt0 (mag_lt ha hb b0 h1)).symm
  · rw [if_neg h1]
    by_cases h2 : (blen (val BB b.m) : Int) + b.e < (blen (val BB a.m) : Int) + a.e
    · rw [if_pos h2]
      exact (cmpN_gt0 (mag_lt hb ha a0 h2)).symm
    · rw [if_neg h2, ← cmpN_mul (P := 2 ^ (min a.e b.e + (SS : Int)).toNat) (Nat.two_pow_pos _)]
      rw [pow_scale _ (Int.min_le_left _ _) (by omega), pow_scale _ (Int.min_le_right _ _) (by omega)]
      rfl
theorem cmpD_Z {a b : Dy} (ha : mayD a = true) (la : Lim BB a.m) (hb : mayD b = true) (lb : Lim BB b.m) : cmpD a b = cmpI (ZD a) (ZD b) := by
  unfold cmpD
  rw [if_neg (by rw [ha, hb]; simp)]
  unfold cmpI
  rcases signD_Z ha with ⟨s1, z1, n1⟩ | ⟨s1, z1, g1, n1⟩ | ⟨s1, z1, g1, n1⟩ <;> rcases signD_Z hb with ⟨s2, z2, n2⟩ | ⟨s2, z2, g2, n2⟩ | ⟨s2, z2, g2, n2⟩ <;> rw [s1, s2]
  · rw [z1, z2]; rfl
  · rw [if_pos (by omega), if_pos (by omega)]
  · rw [if_neg (by omega), if_pos (by omega), if_neg (by omega), if_pos (by omega)]
  · rw [if_neg (by omega), if_pos (by omega), if_neg (by omega), if_pos (by omega)]
  · have e1 : ZD a = ((magD a : Nat) : Int) := by rw [ZD_mag, g1]; simp [sgI]
    have e2 : ZD b = ((magD b : Nat) : Int) := by rw [ZD_mag, g2]; simp [sgI]
    rw [if_neg (by omega), if_neg (by omega), if_neg (by omega), cmpSize_mag ha la hb lb n1 n2, e1, e2]
    unfold cmpN
    rcases Nat.lt_trichotomy (magD a) (magD b) with h | h | h
    · rw [if_pos h, if_pos (by omega)]; rfl
    · rw [if_neg (by omega), if_neg (by omega), if_neg (by omega), if_neg (by omega)]; rfl
    · rw [if_neg (by omega), if_pos h, if_neg (by omega), if_pos (by omega)]; rfl
  · rw [if_neg (by omega), if_pos (by omega), if_neg (by omega), if_pos (by omega)]
  · rw [if_pos (by omega), if_pos (by omega)]
  · rw [if_pos (by omega), if_pos (by omega)]
  · have e1 : ZD a = -((magD a : Nat) : Int) := by rw [ZD_mag, g1]; simp [sgI]
    have e2 : ZD b = -((magD b : Nat) : Int) := by rw [ZD_mag, g2]; simp [sgI]
    rw [if_neg (by omega), if_neg (by omega), if_neg (by omega), cmpSize_mag ha la hb lb n1 n2, e1, e2]
    unfold cmpN
    rcases Nat.lt_trichotomy (magD a) (magD b) with h | h | h
    · rw [if_pos h, if_neg (by omega), if_pos (by omega)]; rfl
    · rw [if_neg (by omega), if_neg (by omega), if_neg (by omega), if_neg (by omega)]; rfl
    · rw [if_neg (by omega), if_pos h, if_pos (by omega)]; rfl
end Go.Proofs.Ytpkfjfpknbhekaa
namespace Go.Proofs.Ytpkfjfpknbhekaa
open Go.RowKit Pl

/-- One limb, and where it lies. -/
theorem RdD.one {w : World} {d : Dy} {A : Option Addr} {n c x : Nat} (h : RdD w (.agg #[.bool d.neg, .slice A n c, .int .i64 d.e]) d) (hm : d.m = [x]) : ∃ b off, A = some ⟨b, off, none⟩ ∧ n = 1 ∧ w.cell? ⟨b, off, none⟩ = some (.int .u64 (x : Int)) ∧ n ≤ c ∧ c ≤ 9223372036854775807 := by
  obtain ⟨A', n', c', e, hr, _⟩ := h
  injection e with e
  have := congrArg Array.toList e
  simp only [List.cons.injEq, Value.slice.injEq, and_true, true_and] at this
  obtain ⟨rfl, rfl, rfl⟩ := this
  have hl := hr.len
  rw [hm] at hl hr
  obtain rfl : n = 1 := hl.symm
  obtain ⟨b, off, rfl, _, hc⟩ := hr.at_ (by omega)
  have h0 := hc 0 (by omega)
  have hmx := hr.max
  unfold maxLen at hmx
  exact ⟨b, off, rfl, rfl, by rw [Nat.add_zero] at h0; exact h0, hr.cap, by omega⟩

end Go.Proofs.Ytpkfjfpknbhekaa
namespace Go.Proofs.Ytpkfjfpknbhekaa
open Go.RowKit Pl

theorem RdD.lim {w : World} {v : Value} {d : Dy} (h : RdD w v d) : Lim BB d.m := by obtain ⟨A, n, c, _, _, hl, _⟩ := h; exact hl
theorem RdD.few {w : World} {d : Dy} {A : Option Addr} {n c : Nat} (h : RdD w (.agg #[.bool d.neg, .slice A n c, .int .i64 d.e]) d) : d.m.length = n := by
  obtain ⟨A', n', c', e, hr, _⟩ := h
  injection e with e
  have := congrArg Array.toList e
  simp only [List.cons.injEq, Value.slice.injEq, and_true, true_and] at this
  obtain ⟨rfl, rfl, rfl⟩ := this
  exact hr.len
end Go.Proofs.Ytpkfjfpknbhekaa
