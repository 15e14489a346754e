/- Plain law: what is rounded lies beside, and nothing of so few bits lies between; quotients and roots lie on the right side. Plain law: quotients and roots lie on the right side; exact ones. -/
import Derived.Test.YteodljieiloebaaDoorRfPx
import Derived.Test.YteodljieiloebaaDoorDyMx
namespace Go.Proofs.YteodljieiloebaaDoor
open Go.RowKit Pl

/-- Numbers of at most p bits, so scaled. -/
def GP (p : Nat) (z : Int) : Prop := ∃ m k, blen m ≤ p ∧ z.natAbs = m * 2 ^ k
theorem GP.mono {p q : Nat} {z : Int} (h : GP p z) (hq : p ≤ q) : GP q z := by
  obtain ⟨m, k, h1, h2⟩ := h
  exact ⟨m, k, by omega, h2⟩
theorem GP.neg {p : Nat} {z : Int} (h : GP p z) : GP p (-z) := by
  obtain ⟨m, k, h1, h2⟩ := h
  exact ⟨m, k, h1, by rw [Int.natAbs_neg, h2]⟩
theorem GP_pow {p C k : Nat} (hp : 1 ≤ p) (h : C ≤ 2 ^ p) : ∃ m j, blen m ≤ p ∧ C * 2 ^ k = m * 2 ^ j := by
  rcases Nat.lt_or_eq_of_le h with h | h
  · exact ⟨C, k, blen_le.2 h, rfl⟩
  · refine ⟨1, p + k, blen_le.2 ?_, by rw [h, Nat.pow_add, Nat.one_mul]⟩
    have := Nat.pow_le_pow_right (n := 2) (by omega) hp
    omega
theorem div_lt_bits (X p : Nat) : X / 2 ^ (blen X - p) < 2 ^ p := by
  rw [Nat.div_lt_iff_lt_mul (Nat.two_pow_pos _), ← Nat.pow_add]
  exact Nat.lt_of_lt_of_le (blen_lt_pow X) (Nat.pow_le_pow_right (by omega) (by omega))
theorem le_div_bits {X p : Nat} (hp : 1 ≤ p) (h : blen X - p ≠ 0) : 2 ^ (p - 1) ≤ X / 2 ^ (blen X - p) := by
  have h1 := pow_le_blen (n := X) (blen_pos.1 (by omega))
  rw [Nat.le_div_iff_mul_le (Nat.two_pow_pos _), ← Nat.pow_add, show p - 1 + (blen X - p) = blen X - 1 by omega]
  exact h1
theorem small_lt {m k p W Y : Nat} (hp : 1 ≤ p) (hm : blen m ≤ p) (hk : k < W) (hY : 2 ^ (p - 1) ≤ Y) : m * 2 ^ k < Y * 2 ^ W := by
  have h1 : m < 2 ^ p := blen_le.1 hm
  have h2 : m * 2 ^ k < 2 ^ p * 2 ^ k := Nat.mul_lt_mul_of_pos_right h1 (Nat.two_pow_pos _)
  have h3 : 2 ^ p * 2 ^ k ≤ 2 ^ (p - 1) * 2 ^ W := by
    rw [← Nat.pow_add, ← Nat.pow_add]
    exact Nat.pow_le_pow_right (by omega) (by omega)
  have h4 : 2 ^ (p - 1) * 2 ^ W ≤ Y * 2 ^ W := Nat.mul_le_mul_right _ hY
  omega
theorem mul_split (A N E : Nat) : A * 2 ^ N * 2 ^ E = A * 2 ^ (N + E) := by rw [Nat.mul_assoc, ← Nat.pow_add]
theorem floor_ext {X E p m k : Nat} (hp : 1 ≤ p) (hm : blen m ≤ p) (h : m * 2 ^ k ≤ X * 2 ^ E) : m * 2 ^ k ≤ X / 2 ^ (blen X - p) * 2 ^ (blen X - p + E) := by
  by_cases h0 : blen X - p = 0
  · rw [h0, Nat.pow_zero, Nat.div_one, Nat.zero_add]; exact h
  · by_cases hk : k < blen X - p + E
    · exact Nat.le_of_lt (small_lt hp hm hk (le_div_bits hp h0))
    · generalize blen X - p = N at *
      obtain ⟨j, rfl⟩ : ∃ j, k = j + (N + E) := ⟨k - (N + E), by omega⟩
      have e : m * 2 ^ (j + (N + E)) = m * 2 ^ j * 2 ^ N * 2 ^ E := by rw [mul_split, mul_split]
      rw [e] at h
      have h1 := Nat.le_of_mul_le_mul_right h (Nat.two_pow_pos E)
      have h2 : m * 2 ^ j ≤ X / 2 ^ N := (Nat.le_div_iff_mul_le (Nat.two_pow_pos N)).2 h1
      rw [e, ← mul_split]
      exact Nat.mul_le_mul_right _ (Nat.mul_le_mul_right _ h2)
theorem floor_le {X E N : Nat} : X / 2 ^ N * 2 ^ (N + E) ≤ X * 2 ^ E := by
  rw [← mul_split]
  exact Nat.mul_le_mul_right _ (Nat.div_mul_le_self _ _)
def ceilN (X N : Nat) : Nat := X / 2 ^ N + (bif decide (X % 2 ^ N ≠ 0) then 1 else 0)
theorem ceilN_spec (X N : Nat) : X ≤ ceilN X N * 2 ^ N ∧ ∀ q, X ≤ q * 2 ^ N → ceilN X N ≤ q := by
  have hp := Nat.two_pow_pos N
  have hd := Nat.div_add_mod X (2 ^ N)
  have hl := Nat.mod_lt X hp
  rw [Nat.mul_comm] at hd
  unfold ceilN
  by_cases h : X % 2 ^ N = 0
  · rw [decide_eq_false (by omega), cond_false, Nat.add_zero]
    refine ⟨by omega, fun q hq => ?_⟩
    refine Nat.le_of_mul_le_mul_right (c := 2 ^ N) ?_ hp
    omega
  · rw [decide_eq_true (by omega), cond_true, Nat.add_mul, Nat.one_mul]
    refine ⟨by omega, fun q hq => ?_⟩
    refine Nat.lt_of_mul_lt_mul_right (a := 2 ^ N) ?_
    omega
theorem ceil_ge {X E N : Nat} : X * 2 ^ E ≤ ceilN X N * 2 ^ (N + E) := by
  rw [← mul_split]
  exact Nat.mul_le_mul_right _ (ceilN_spec X N).1
theorem ceil_ext {X E p m k : Nat} (hp : 1 ≤ p) (hm : blen m ≤ p) (h : X * 2 ^ E ≤ m * 2 ^ k) : ceilN X (blen X - p) * 2 ^ (blen X - p + E) ≤ m * 2 ^ k := by
  by_cases h0 : blen X - p = 0
  · rw [h0, Nat.zero_add]; unfold ceilN; rw [Nat.pow_zero, Nat.mod_one, Nat.div_one]; simpa using h
  · by_cases hk : k < blen X - p + E
    · have h1 := small_lt hp hm hk (le_div_bits hp h0)
      have h2 := floor_le (X := X) (E := E) (N := blen X - p)
      omega
    · generalize blen X - p = N at *
      obtain ⟨j, rfl⟩ : ∃ j, k = j + (N + E) := ⟨k - (N + E), by omega⟩
      have e : m * 2 ^ (j + (N + E)) = m * 2 ^ j * 2 ^ N * 2 ^ E := by rw [mul_split, mul_split]
      rw [e] at h
      have h1 := Nat.le_of_mul_le_mul_right h (Nat.two_pow_pos E)
      have h2 := (ceilN_spec X N).2 _ h1
      rw [e, ← mul_split]
      exact Nat.mul_le_mul_right _ (Nat.mul_le_mul_right _ h2)
theorem ceil_lt (X p : Nat) : ceilN X (blen X - p) ≤ 2 ^ p := by
  have := div_lt_bits X p
  unfold ceilN
  cases decide (X % 2 ^ (blen X - p) ≠ 0) <;> simp only [cond_true, cond_false] <;> omega
theorem toNat_add {e : Int} {N : Nat} (h : -8388608 ≤ e) : (e + (N : Int) + (SS : Int)).toNat = N + (e + (SS : Int)).toNat := by
  have := SS_eq
  omega
/-- A Dyad that may be has so few bits just if its number has. -/
theorem bits_GP {c : Dy} {n : Nat} (hc : mayD c = true) : bitsD c ≤ (n : Int) ↔ GP n (ZD c) := by
  unfold bitsD
  rw [hc, cond_true]
  have hz : (ZD c).natAbs = val BB c.m * 2 ^ (c.e + (SS : Int)).toNat := by
    unfold ZD sgI
    cases c.neg <;> simp [Int.natAbs_mul, Int.natAbs_pow]
  constructor
  · intro h
    exact ⟨val BB c.m, (c.e + (SS : Int)).toNat, by omega, hz⟩
  · rintro ⟨m, k, h1, h2⟩
    rw [hz] at h2
    by_cases h0 : c.m.length = 0
    · rw [List.length_eq_zero_iff.1 h0]
      simp [val, blen_zero]
    · obtain ⟨ho, hv⟩ := mayD_val hc h0
      generalize (c.e + (SS : Int)).toNat = E at *
      generalize val BB c.m = X at *
      have hm : m ≠ 0 := by
        rintro rfl
        have := Nat.mul_pos (Nat.pos_of_ne_zero hv) (Nat.two_pow_pos E)
        omega
      have hk : k ≤ E := by
        have h3 := tz_mul_pow hv E
        rw [h2, tz_mul_pow hm, tz_odd ho] at h3
        omega
      have h4 : blen X + E = blen m + k := by rw [← blen_mul_pow hv, ← blen_mul_pow hm, h2]
      omega

/-- What is fitted in, if it is neither long nor far. -/
theorem fit_ok {neg : Bool} {n : Nat} {e : Int} (hn : blen n ≤ 4000) (h1 : -200000 ≤ e) (h2 : e ≤ 200000) :
    ∃ d, fitS neg n e = (d, 0) ∧ mayD d = true ∧ Lim BB d.m ∧ blen (val BB d.m) ≤ blen n ∧ (d.e = 0 ∨ e ≤ d.e ∧ d.e ≤ e + blen n) ∧ (d.m.length ≠ 0 → d.neg = neg) := by
  rcases Nat.eq_zero_or_pos n with rfl | h0
  · exact ⟨Dy.zero, fitS_zero _ _, by decide, Lim.nil, by simp [Dy.zero, blen_zero], .inl rfl, fun h => (h rfl).elim⟩
  · have hb : blen (n / 2 ^ tz n) ≤ blen n := blen_mono (Nat.div_le_self _ _)
    have hz := tz_lt_blen (Nat.ne_of_gt h0)
    have hf := fitS_eq (neg := neg) (e := e) (Nat.ne_of_gt h0)
    rw [if_neg (Decidable.not_not.2 (limb_len (by omega))), if_pos (by omega)] at hf
    obtain ⟨k1, k2, k3⟩ := fit_post (by omega) hf
    refine ⟨_, hf, k1, k2, ?_, .inr ⟨?_, ?_⟩, fun _ => rfl⟩
    · rw [limbs_val BB_gt1]; exact hb
    · show e ≤ e + (tz n : Int); omega
    · show e + (tz n : Int) ≤ e + blen n; omega
theorem ZD_sg {d : Dy} : ZD d = sgI d.neg * ((val BB d.m * 2 ^ (d.e + (SS : Int)).toNat : Nat) : Int) := rfl
theorem GP_sg {p C k : Nat} {neg : Bool} (hp : 1 ≤ p) (h : C ≤ 2 ^ p) : GP p (sgI neg * ((C * 2 ^ k : Nat) : Int)) := by
  obtain ⟨m, j, h1, h2⟩ := GP_pow (k := k) hp h
  refine ⟨m, j, h1, ?_⟩
  rw [← h2]
  unfold sgI
  cases neg <;> simp only [if_true, if_false, Bool.false_eq_true] <;> omega
theorem mayS_one {p : Int} {d : Dy} (h : mayS p [d] = true) : mayD d = true := mayS_all h d (by simp)
/-- The two ways of cutting. -/
theorem cut_ways (neg up : Bool) (X : Nat) (e : Int) (p : Nat) :
    cutS neg X e false p up = fitS neg (bif !(up == neg) then ceilN X (blen X - p) else X / 2 ^ (blen X - p)) (e + ((blen X - p : Nat) : Int)) := by
  unfold cutS ceilN
  rw [Bool.false_or]
  cases (!(up == neg)) <;> simp
/-- Down and Up. -/
theorem dir_post {d a : Dy} {p : Nat} {up : Bool} (h : dirS d p up = (a, 0)) :
    mayD d = true ∧ 1 ≤ p ∧ p ≤ 2000 ∧ mayD a = true ∧ Lim BB a.m ∧ GP p (ZD a) ∧
    (up = false → ZD a ≤ ZD d ∧ ∀ z, GP p z → z ≤ ZD d → z ≤ ZD a) ∧
    (up = true → ZD d ≤ ZD a ∧ ∀ z, GP p z → ZD d ≤ z → ZD a ≤ z) := by
  unfold dirS at h
  cases hm : mayS p [d] with
  | false => rw [hm] at h; exact absurd (congrArg Prod.snd h) (by simp)
  | true =>
    rw [hm, cond_true, cut_ways] at h
    obtain ⟨q, hq, hp, hp2⟩ := mayS_nat hm
    obtain rfl : p = q := by omega
    have hmd := mayS_one hm
    obtain ⟨_, _, de1, de2⟩ := mayD_limbs hmd
    rw [Int.toNat_natCast] at h
    obtain ⟨k1, k2, k3⟩ := fit_post (by omega) h
    rw [toNat_add (by omega)] at k3
    have hd := ZD_sg (d := d)
    generalize (d.e + (SS : Int)).toNat = E at *
    generalize val BB d.m = X at *
    generalize hneg : d.neg = neg at *
    have f1 := floor_le (X := X) (E := E) (N := blen X - p)
    have f2 := ceil_ge (X := X) (E := E) (N := blen X - p)
    have f3 := Nat.le_of_lt (div_lt_bits X p)
    have f4 := ceil_lt X p
    refine ⟨hmd, hp, hp2, k1, k2, ?_, ?_, ?_⟩
    · rw [k3]
      cases (!(up == neg)) <;> exact GP_sg hp (by assumption)
    · rintro rfl
      rw [hd, k3]
      cases neg with
      | false =>
        simp only [sgI, Bool.false_eq_true, if_false, Int.one_mul, beq_self_eq_true, Bool.not_true, cond_false]
        refine ⟨by omega, fun z ⟨m, k, g1, g2⟩ hz => ?_⟩
        rcases Int.lt_or_le z 0 with hl | hl
        · omega
        · have := floor_ext (X := X) (E := E) hp g1 (k := k) (by omega)
          omega
      | true =>
        simp only [sgI, if_true, show (!(false == true)) = true from rfl, cond_true]
        refine ⟨by omega, fun z ⟨m, k, g1, g2⟩ hz => ?_⟩
        rcases Int.lt_or_le 0 z with hl | hl
        · omega
        · have := ceil_ext (X := X) (E := E) hp g1 (k := k) (by omega)
          omega
    · rintro rfl
      rw [hd, k3]
      cases neg with
      | true =>
        simp only [sgI, if_true, beq_self_eq_true, Bool.not_true, cond_false]
        refine ⟨by omega, fun z ⟨m, k, g1, g2⟩ hz => ?_⟩
        rcases Int.lt_or_le 0 z with hl | hl
        · omega
        · have := floor_ext (X := X) (E := E) hp g1 (k := k) (by omega)
          omega
      | false =>
        simp only [sgI, Bool.false_eq_true, if_false, Int.one_mul, show (!(true == false)) = true from rfl, cond_true]
        refine ⟨by omega, fun z ⟨m, k, g1, g2⟩ hz => ?_⟩
        rcases Int.lt_or_le z 0 with hl | hl
        · omega
        · have := ceil_ext (X := X) (E := E) hp g1 (k := k) (by omega)
          omega
theorem mayS_mk {p : Nat} {d : Dy} (h : mayD d = true) (h1 : 1 ≤ p) (h2 : p ≤ 2000) : mayS p [d] = true := by
  unfold mayS
  simp [h]
  omega
/-- What has so few bits stays. -/
theorem dir_fix {d : Dy} {p : Nat} {up : Bool} (hm : mayD d = true) (hl : Lim BB d.m) (h1 : 1 ≤ p) (h2 : p ≤ 2000) (hb : bitsD d ≤ (p : Int)) : dirS d p up = (d, 0) := by
  unfold bitsD at hb
  rw [hm, cond_true] at hb
  unfold dirS
  rw [mayS_mk hm h1 h2, cond_true, Int.toNat_natCast, cut_ways, show blen (val BB d.m) - p = 0 by omega, ← fit_may hl hm]
  unfold ceilN
  rw [Nat.pow_zero, Nat.mod_one, Nat.div_one]
  cases (!(up == d.neg)) <;> simp
theorem fitS_negB {neg : Bool} {n : Nat} {e : Int} {d : Dy} (h : fitS neg n e = (d, 0)) (he : -8388608 ≤ e) : fitS (!neg) n e = (negS d, 0) := by
  rcases Nat.eq_zero_or_pos n with rfl | h0
  · rw [fitS_zero] at h ⊢
    obtain rfl := (Prod.mk.inj h).1
    rfl
  · have hf := fit_post he h
    rw [fitS_eq (by omega)] at h ⊢
    split at h
    · exact absurd (congrArg Prod.snd h) (by simp)
    · rename_i g1
      rw [if_neg g1]
      split at h
      · rename_i g2
        rw [if_pos g2]
        obtain rfl := (Prod.mk.inj h).1
        have hne : (limbs BB (n / 2 ^ tz n)).length ≠ 0 := by
          intro h3
          obtain ⟨o1, o2⟩ := odd_part (Nat.ne_of_gt h0)
          have h4 := limbs_val BB_gt1 (n / 2 ^ tz n)
          rw [List.length_eq_zero_iff.1 h3] at h4
          simp only [val] at h4
          omega
        have hg : negS ⟨neg, limbs BB (n / 2 ^ tz n), e + (tz n : Int)⟩ = ⟨!neg, limbs BB (n / 2 ^ tz n), e + (tz n : Int)⟩ := by
          unfold negS
          exact if_pos ⟨hf.1, hne⟩
        rw [hg]
      · exact absurd (congrArg Prod.snd h) (by simp)
/-- The way down of what is turned about is the way up. -/
theorem dir_neg {d b : Dy} {p : Nat} {up : Bool} (h : dirS d p up = (b, 0)) : dirS (negS d) p (!up) = (negS b, 0) := by
  have hp := dir_post h
  have hmd := hp.1
  obtain ⟨_, _, de1, de2⟩ := mayD_limbs hmd
  unfold dirS at h ⊢
  rw [mayS_mk hmd hp.2.1 hp.2.2.1, cond_true, Int.toNat_natCast, cut_ways] at h
  rw [mayS_mk (negS_may hmd) hp.2.1 hp.2.2.1, cond_true, Int.toNat_natCast, cut_ways, negS_m]
  by_cases h0 : d.m.length = 0
  · obtain rfl := mayD_zero hmd h0
    have z : ∀ c, (bif c then ceilN (val BB Dy.zero.m) (blen (val BB Dy.zero.m) - p) else val BB Dy.zero.m / 2 ^ (blen (val BB Dy.zero.m) - p)) = 0 := by
      intro c
      show (bif c then ceilN 0 (blen 0 - p) else 0 / 2 ^ (blen 0 - p)) = 0
      unfold ceilN
      cases c <;> simp
    rw [z, fitS_zero] at h ⊢
    obtain rfl := (Prod.mk.inj h).1
    rfl
  · have h2 := fitS_negB h (by omega)
    have hz : negS d = ⟨!d.neg, d.m, d.e⟩ := by unfold negS; rw [if_pos ⟨hmd, h0⟩]
    rw [hz]
    rw [show ((!up) == !d.neg) = (up == d.neg) by cases up <;> cases d.neg <;> rfl]
    exact h2
theorem ceil_blen (X N : Nat) : blen (ceilN X N) ≤ blen X + 1 := by
  have h1 : X / 2 ^ N ≤ X := Nat.div_le_self _ _
  refine Nat.le_trans (blen_mono (n := X + 1) ?_) ?_
  · unfold ceilN
    cases decide (X % 2 ^ N ≠ 0) <;> simp only [cond_true, cond_false] <;> omega
  · refine blen_le.2 ?_
    have := blen_lt_pow X
    rw [Nat.pow_succ]
    omega
/-- Rounding goes well. -/
theorem dir_ok {d : Dy} {p : Nat} (up : Bool) {E : Int} (hm : mayD d = true) (h1 : 1 ≤ p) (h2 : p ≤ 2000) (hb : blen (val BB d.m) ≤ 3000) (he1 : -E ≤ d.e) (he2 : d.e ≤ E) (hE : E ≤ 100000) :
    ∃ a, dirS d p up = (a, 0) ∧ blen (val BB a.m) ≤ blen (val BB d.m) + 1 ∧ -(E + 7000) ≤ a.e ∧ a.e ≤ E + 7000 := by
  unfold dirS
  rw [mayS_mk hm h1 h2, cond_true, Int.toNat_natCast, cut_ways]
  generalize val BB d.m = X at *
  have hc : blen (bif !(up == d.neg) then ceilN X (blen X - p) else X / 2 ^ (blen X - p)) ≤ blen X + 1 := by
    cases (!(up == d.neg)) with
    | false => exact Nat.le_trans (blen_mono (Nat.div_le_self _ _)) (by omega)
    | true => exact ceil_blen _ _
  generalize (bif !(up == d.neg) then ceilN X (blen X - p) else X / 2 ^ (blen X - p)) = Y at *
  obtain ⟨a, g1, g2, g3, g4, g5, g6⟩ := fit_ok (neg := d.neg) (n := Y) (e := d.e + ((blen X - p : Nat) : Int)) (by omega) (by omega) (by omega)
  exact ⟨a, g1, by omega, by omega, by omega⟩
end Go.Proofs.YteodljieiloebaaDoor
namespace Go.Proofs.YteodljieiloebaaDoor
open Go.RowKit Pl

def ceilM (A M : Nat) : Nat := A / M + (bif decide (A % M ≠ 0) then 1 else 0)
theorem ceilM_ge {A M : Nat} (hM : 0 < M) : A ≤ ceilM A M * M := by
  have hd := Nat.div_add_mod A M
  have hl := Nat.mod_lt A hM
  rw [Nat.mul_comm] at hd
  unfold ceilM
  by_cases h : A % M = 0
  · rw [decide_eq_false (by omega), cond_false, Nat.add_zero]; omega
  · rw [decide_eq_true (by omega), cond_true, Nat.add_mul, Nat.one_mul]; omega
theorem ways {c : Bool} {A M : Nat} : A / M + (bif decide (A % M ≠ 0) && c then 1 else 0) = bif c then ceilM A M else A / M := by
  unfold ceilM
  cases c <;> simp
theorem quot_scale {x b F1 F2 N G : Nat} (h1 : F1 + F2 = G + N) : x * 2 ^ F1 * (b * 2 ^ F2) = x * (b * 2 ^ N) * 2 ^ G := by
  rw [Nat.mul_mul_mul_comm, ← Nat.pow_add, h1, Nat.pow_add 2 G N, Nat.mul_comm (2 ^ G), ← Nat.mul_assoc, Nat.mul_assoc x b]
theorem quot_scale2 {a F3 S G K : Nat} (h2 : F3 + S = G + K) : a * 2 ^ F3 * 2 ^ S = a * 2 ^ K * 2 ^ G := by
  rw [Nat.mul_assoc, ← Nat.pow_add, h2, Nat.pow_add, Nat.mul_comm (2 ^ G), ← Nat.mul_assoc]
/-- A quotient lies on the right side. -/
theorem quot_post {a b x : Dy} {p : Nat} {up : Bool} (lb : Lim BB b.m) (h : quotS a b p up = (x, 0)) (hb : b.neg = false) :
    mayD x = true ∧ Lim BB x.m ∧ (up = false → ZD x * ZD b ≤ ZD a * ((2 ^ SS : Nat) : Int)) ∧ (up = true → ZD a * ((2 ^ SS : Nat) : Int) ≤ ZD x * ZD b) := by
  unfold quotS at h
  cases hm : mayS p [a, b] with
  | false => rw [hm] at h; exact absurd (congrArg Prod.snd h) (by simp)
  | true =>
    rw [hm, cond_true] at h
    cases hy : decide ((0 : Int) < (b.m.length : Int)) with
    | false => rw [hy] at h; exact absurd (congrArg Prod.snd h) (by simp)
    | true =>
      rw [hy, cond_true, hb] at h
      obtain ⟨q, hq, hp, hp2⟩ := mayS_nat hm
      obtain rfl : p = q := by omega
      have hma := mayS_all hm a (by simp)
      have hmb := mayS_all hm b (by simp)
      obtain ⟨_, _, ae1, ae2⟩ := mayD_limbs hma
      obtain ⟨_, _, be1, be2⟩ := mayD_limbs hmb
      have hY := val_pos lb hmb hy
      have hYl : blen (val BB b.m) ≤ 4096 := mayD_blen lb hmb
      rw [Int.toNat_natCast] at h
      obtain ⟨K, hK⟩ : ∃ K, K = quotK (val BB a.m) (val BB b.m) p := ⟨_, rfl⟩
      have hKl : K ≤ 6200 := by rw [hK]; unfold quotK; omega
      rw [← hK, cutS_rat hY, ways] at h
      have hS := SS_eq
      obtain ⟨k1, k2, k3⟩ := fit_post (by omega) h
      refine ⟨k1, k2, ?_⟩
      have za := ZD_sg (d := a)
      have zb := ZD_sg (d := b)
      rw [hb] at zb
      rw [za, zb, k3]
      obtain ⟨N, hN⟩ : ∃ N, N = blen (val BB a.m * 2 ^ K / val BB b.m) - p := ⟨_, rfl⟩
      rw [← hN]
      obtain ⟨F1, hF1⟩ : ∃ F1, F1 = (a.e - b.e - (K : Int) + (N : Int) + (SS : Int)).toNat := ⟨_, rfl⟩
      obtain ⟨F2, hF2⟩ : ∃ F2, F2 = (b.e + (SS : Int)).toNat := ⟨_, rfl⟩
      obtain ⟨F3, hF3⟩ : ∃ F3, F3 = (a.e + (SS : Int)).toNat := ⟨_, rfl⟩
      obtain ⟨G, hG⟩ : ∃ G, G = (a.e - (K : Int) + 2 * (SS : Int)).toNat := ⟨_, rfl⟩
      have e1 : F1 + F2 = G + N := by omega
      have e2 : F3 + SS = G + K := by omega
      rw [← hF1, ← hF2, ← hF3]
      generalize val BB a.m = X at *
      generalize val BB b.m = Y at *
      generalize hs : a.neg = neg at *
      have hM : 0 < Y * 2 ^ N := Nat.mul_pos hY (Nat.two_pow_pos N)
      have f1 : X * 2 ^ K / (Y * 2 ^ N) * (Y * 2 ^ N) * 2 ^ G ≤ X * 2 ^ K * 2 ^ G := Nat.mul_le_mul_right _ (Nat.div_mul_le_self _ _)
      have f2 : X * 2 ^ K * 2 ^ G ≤ ceilM (X * 2 ^ K) (Y * 2 ^ N) * (Y * 2 ^ N) * 2 ^ G := Nat.mul_le_mul_right _ (ceilM_ge hM)
      have s1 := quot_scale (x := X * 2 ^ K / (Y * 2 ^ N)) (b := Y) e1
      have s2 := quot_scale (x := ceilM (X * 2 ^ K) (Y * 2 ^ N)) (b := Y) e1
      have s3 := quot_scale2 (a := X) e2
      rw [← s1, ← s3] at f1
      rw [← s2, ← s3] at f2
      rw [show (!(neg == false)) = neg by cases neg <;> rfl]
      generalize 2 ^ SS = S at *
      generalize X * 2 ^ F3 = A at *
      generalize Y * 2 ^ F2 = B at *
      have f1' : ((X * 2 ^ K / (Y * 2 ^ N) * 2 ^ F1 : Nat) : Int) * (B : Int) ≤ (A : Int) * (S : Int) := by exact_mod_cast f1
      have f2' : (A : Int) * (S : Int) ≤ ((ceilM (X * 2 ^ K) (Y * 2 ^ N) * 2 ^ F1 : Nat) : Int) * (B : Int) := by exact_mod_cast f2
      constructor
      · rintro rfl
        cases neg with
        | false =>
          simp only [sgI, Bool.false_eq_true, if_false, Int.one_mul, show (!(false == false)) = false from rfl, cond_false]
          exact f1'
        | true =>
          simp only [sgI, if_true, Bool.false_eq_true, if_false, Int.one_mul, show (!(false == true)) = true from rfl, cond_true, Int.neg_mul]
          exact Int.neg_le_neg f2'
      · rintro rfl
        cases neg with
        | false =>
          simp only [sgI, Bool.false_eq_true, if_false, Int.one_mul, show (!(true == false)) = true from rfl, cond_true]
          exact f2'
        | true =>
          simp only [sgI, if_true, Bool.false_eq_true, if_false, Int.one_mul, show (!(true == true)) = false from rfl, cond_false, Int.neg_mul]
          exact Int.neg_le_neg f1'
theorem rootK_even (X p : Nat) (e : Int) : ∃ u : Int, e - (rootK X p e : Int) = 2 * u ∧ (e - (rootK X p e : Int)).tdiv 2 = u := by
  have hkE : (e - (rootK X p e : Int)) % 2 = 0 := by
    unfold rootK
    obtain ⟨k0, hk0⟩ : ∃ k0, k0 = 2 * p + 2 - blen X := ⟨_, rfl⟩
    rw [← hk0]
    by_cases h : (e - (k0 : Int)).tmod 2 ≠ 0
    · rw [decide_eq_true h]
      simp only [cond_true]
      have : (e - (k0 : Int)) % 2 ≠ 0 := fun h0 => h (Int.tmod_eq_zero_of_dvd (Int.dvd_of_emod_eq_zero h0))
      omega
    · rw [decide_eq_false h]
      simp only [cond_false]
      have h0 : (e - (k0 : Int)).tmod 2 = 0 := by simpa using h
      have := Int.emod_eq_zero_of_dvd (Int.dvd_of_tmod_eq_zero h0)
      omega
  obtain ⟨u, hu⟩ : ∃ u, e - (rootK X p e : Int) = 2 * u := ⟨(e - (rootK X p e : Int)) / 2, by omega⟩
  exact ⟨u, hu, by rw [hu]; exact Int.mul_tdiv_cancel_left _ (by omega)⟩
theorem rootK_le (X p : Nat) (e : Int) : rootK X p e ≤ 2 * p + 3 := by
  unfold rootK
  cases decide ((e - ((2 * p + 2 - blen X : Nat) : Int)).tmod 2 ≠ 0) <;> simp only [cond_true, cond_false] <;> omega
theorem cutS_root {R P : Nat} {c : Bool} {e : Int} {up : Bool} :
    cutS false R e c P up = fitS false (bif up && (c || decide (R % 2 ^ (blen R - P) ≠ 0)) then R / 2 ^ (blen R - P) + 1 else R / 2 ^ (blen R - P)) (e + ((blen R - P : Nat) : Int)) := by
  unfold cutS
  cases up <;> cases (c || decide (R % 2 ^ (blen R - P) ≠ 0)) <;> rfl
theorem root_sq {C N F Q : Nat} (h : F + F = Q + (N + N)) : C * 2 ^ F * (C * 2 ^ F) = C * 2 ^ N * (C * 2 ^ N) * 2 ^ Q := by
  rw [Nat.mul_mul_mul_comm, ← Nat.pow_add, h, Nat.pow_add 2 Q, Nat.mul_mul_mul_comm C (2 ^ N), ← Nat.pow_add 2 N, Nat.mul_comm (2 ^ Q), ← Nat.mul_assoc]
/-- A root lies on the right side. -/
theorem root_post {d x : Dy} {p : Nat} {up : Bool} (_ld : Lim BB d.m) (h : rootS d p up = (x, 0)) :
    mayD x = true ∧ Lim BB x.m ∧ GP p (ZD x) ∧ (0 < ZD d → 0 < ZD x) ∧ (up = false → ZD x * ZD x ≤ ZD d * ((2 ^ SS : Nat) : Int)) ∧ (up = true → ZD d * ((2 ^ SS : Nat) : Int) ≤ ZD x * ZD x) := by
  unfold rootS at h
  cases hm : mayS p [d] with
  | false => rw [hm] at h; exact absurd (congrArg Prod.snd h) (by simp)
  | true =>
    rw [hm, cond_true] at h
    cases hn : d.neg with
    | true => rw [hn] at h; exact absurd (congrArg Prod.snd h) (by simp)
    | false =>
      rw [hn, cond_false] at h
      obtain ⟨q, hq, hp, hp2⟩ := mayS_nat hm
      obtain rfl : p = q := by omega
      have hmd := mayS_one hm
      obtain ⟨_, _, de1, de2⟩ := mayD_limbs hmd
      rw [Int.toNat_natCast] at h
      obtain ⟨u, hu, ht⟩ := rootK_even (val BB d.m) p d.e
      have hkl := rootK_le (val BB d.m) p d.e
      rw [ht, cutS_root] at h
      have hS := SS_eq
      generalize rootK (val BB d.m) p d.e = K at *
      have zd := ZD_sg (d := d)
      rw [hn] at zd
      obtain ⟨s1, s2⟩ := nroot_spec (val BB d.m * 2 ^ K)
      obtain ⟨R, hR⟩ : ∃ R, R = nroot (val BB d.m * 2 ^ K) := ⟨_, rfl⟩
      rw [← hR] at h s1 s2
      obtain ⟨k1, k2, k3⟩ := fit_post (by omega) h
      obtain ⟨N, hN⟩ : ∃ N, N = blen R - p := ⟨_, rfl⟩
      have t1 := div_lt_bits R p
      have t2 : blen R - p ≠ 0 → _ := le_div_bits (X := R) hp
      rw [← hN] at h k3 t1 t2
      obtain ⟨c, hc⟩ : ∃ c, c = (up && (decide (R * R ≠ val BB d.m * 2 ^ K) || decide (R % 2 ^ N ≠ 0))) := ⟨_, rfl⟩
      rw [← hc] at k3
      obtain ⟨C, hC⟩ : ∃ C, C = (bif c then R / 2 ^ N + 1 else R / 2 ^ N) := ⟨_, rfl⟩
      rw [← hC] at k3
      have hCl : C ≤ 2 ^ p := by rw [hC]; cases c <;> simp only [cond_true, cond_false] <;> omega
      refine ⟨k1, k2, by rw [k3]; exact GP_sg hp hCl, ?_⟩
      simp only [sgI, Bool.false_eq_true, if_false, Int.one_mul] at k3 zd
      rw [k3, zd]
      obtain ⟨F, hF⟩ : ∃ F, F = (u + (N : Int) + (SS : Int)).toNat := ⟨_, rfl⟩
      obtain ⟨E, hE⟩ : ∃ E, E = (d.e + (SS : Int)).toNat := ⟨_, rfl⟩
      rw [← hF, ← hE]
      obtain ⟨Q, hQ⟩ : ∃ Q, Q = (d.e - (K : Int) + 2 * (SS : Int)).toNat := ⟨_, rfl⟩
      have e1 : F + F = Q + (N + N) := by omega
      have e2 : E + SS = K + Q := by omega
      have r1 := root_sq (C := C) e1
      generalize val BB d.m = X at *
      have r2 : X * 2 ^ E * 2 ^ SS = X * 2 ^ K * 2 ^ Q := by rw [Nat.mul_assoc, ← Nat.pow_add, e2, Nat.pow_add, ← Nat.mul_assoc]
      have hd := Nat.div_add_mod R (2 ^ N)
      have hl := Nat.mod_lt R (Nat.two_pow_pos N)
      rw [Nat.mul_comm] at hd
      refine ⟨fun hpos => ?_, fun hup => ?_, fun hup => ?_⟩
      · have hX : 0 < X := by
          rcases Nat.eq_zero_or_pos X with h0 | h0
          · rw [h0] at hpos; simp at hpos
          · exact h0
        have hR0 : R ≠ 0 := by
          rintro rfl
          have := Nat.mul_pos hX (Nat.two_pow_pos K)
          omega
        have hC0 : 0 < C := by
          have h5 : 0 < R / 2 ^ N := by
            by_cases h0 : N = 0
            · rw [h0, Nat.pow_zero, Nat.div_one]; omega
            · have := t2 (by omega)
              have := Nat.two_pow_pos (p - 1)
              omega
          rw [hC]; cases c <;> simp only [cond_true, cond_false] <;> omega
        have := Nat.mul_pos hC0 (Nat.two_pow_pos F)
        exact_mod_cast this
      · subst hup
        rw [Bool.false_and] at hc
        rw [hc, cond_false] at hC
        have h6 : C * 2 ^ N ≤ R := by rw [hC]; omega
        have h7 := Nat.le_trans (Nat.mul_le_mul h6 h6) s1
        have h8 := Nat.mul_le_mul_right (2 ^ Q) h7
        rw [← r1, ← r2] at h8
        exact_mod_cast h8
      · subst hup
        rw [Bool.true_and] at hc
        have h7 : X * 2 ^ K ≤ C * 2 ^ N * (C * 2 ^ N) := by
          by_cases hcc : c = true
          · rw [hcc, cond_true] at hC
            have h6 : R + 1 ≤ C * 2 ^ N := by rw [hC, Nat.add_mul, Nat.one_mul]; omega
            exact Nat.le_trans (Nat.le_of_lt s2) (Nat.mul_le_mul h6 h6)
          · rw [Bool.not_eq_true] at hcc
            rw [hcc, cond_false] at hC
            rw [hcc] at hc
            have h9 := (Bool.or_eq_false_iff.1 hc.symm)
            have h10 : R * R = X * 2 ^ K := by simpa using h9.1
            have h11 : R % 2 ^ N = 0 := by simpa using h9.2
            have h6 : C * 2 ^ N = R := by rw [hC]; omega
            rw [h6, h10]
            exact Nat.le_refl _
        have h8 := Nat.mul_le_mul_right (2 ^ Q) h7
        rw [← r1, ← r2] at h8
        exact_mod_cast h8
/-! Exact ones. -/
theorem cut_exact {neg : Bool} {X : Nat} {e : Int} {p K : Nat} {up : Bool} (h0 : X ≠ 0) (hb : blen X ≤ p) : cutS neg (X * 2 ^ K) (e - (K : Int)) false p up = fitS neg X e := by
  rw [cut_ways, blen_mul_pow h0]
  obtain ⟨N, hN⟩ : ∃ N, N = blen X + K - p := ⟨_, rfl⟩
  obtain ⟨j, hj⟩ : ∃ j, K = j + N := ⟨K - N, by omega⟩
  rw [← hN]
  have e1 : X * 2 ^ K = X * 2 ^ j * 2 ^ N := by rw [hj, Nat.pow_add, Nat.mul_assoc]
  have e2 : X * 2 ^ K / 2 ^ N = X * 2 ^ j := by rw [e1]; exact Nat.mul_div_cancel _ (Nat.two_pow_pos N)
  have e3 : ceilN (X * 2 ^ K) N = X * 2 ^ j := by
    unfold ceilN
    rw [e2, e1, Nat.mul_mod_left]
    simp
  rw [e2, e3, Bool.cond_self, show e - (K : Int) + (N : Int) = e - (j : Int) by omega, fitS_shift]
theorem mul_odd {a b : Dy} (ha : mayD a = true) (la : Lim BB a.m) (hb : mayD b = true) (lb : Lim BB b.m) (a0 : a.m.length ≠ 0) (b0 : b.m.length ≠ 0)
    (a3 : a.m.length ≤ 3) (b3 : b.m.length ≤ 3) (ae1 : -1000 ≤ a.e) (ae2 : a.e ≤ 1000) (be1 : -1000 ≤ b.e) (be2 : b.e ≤ 1000) :
    ∃ m, mulS a b = (m, 0) ∧ mayD m = true ∧ Lim BB m.m ∧ val BB m.m = val BB a.m * val BB b.m ∧ m.e = a.e + b.e ∧ m.neg = (!(a.neg == b.neg)) := by
  obtain ⟨oa, va⟩ := mayD_val ha a0
  obtain ⟨ob, vb⟩ := mayD_val hb b0
  have ba : blen (val BB a.m) ≤ 192 := Nat.le_trans (blen_limb la) (by omega)
  have bb : blen (val BB b.m) ≤ 192 := Nat.le_trans (blen_limb lb) (by omega)
  have hodd : (val BB a.m * val BB b.m) % 2 = 1 := by rw [Nat.mul_mod, oa, ob]
  have hbl := blen_mul ba bb
  have hne : val BB a.m * val BB b.m ≠ 0 := Nat.mul_ne_zero va vb
  have hf := fitS_eq (neg := !(a.neg == b.neg)) (e := a.e + b.e) hne
  rw [tz_odd hodd, Nat.pow_zero, Nat.div_one, if_neg (Decidable.not_not.2 (limb_len (by omega))), if_pos (by omega)] at hf
  obtain ⟨k1, k2, _⟩ := fit_post (by omega) hf
  exact ⟨_, hf, k1, k2, limbs_val BB_gt1 _, by simp, rfl⟩
theorem quot_exact {a b m : Dy} {up : Bool} (ha : mayD a = true) (la : Lim BB a.m) (hb : mayD b = true) (a0 : a.m.length ≠ 0) (b0 : b.m.length ≠ 0) (a3 : a.m.length ≤ 3)
    (hm : mayD m = true) (hv : val BB m.m = val BB a.m * val BB b.m) (he : m.e = a.e + b.e) (hn : m.neg = (!(a.neg == b.neg))) : quotS m b 200 up = (a, 0) := by
  obtain ⟨_, va⟩ := mayD_val ha a0
  obtain ⟨_, vb⟩ := mayD_val hb b0
  have ba : blen (val BB a.m) ≤ 192 := Nat.le_trans (blen_limb la) (by omega)
  unfold quotS
  rw [show mayS 200 [m, b] = true by unfold mayS; simp [hm, hb], cond_true, decide_eq_true (show (0 : Int) < (b.m.length : Int) by omega), cond_true, hv, he, hn]
  generalize quotK (val BB a.m * val BB b.m) (val BB b.m) (200 : Int).toNat = K
  have e1 : val BB a.m * val BB b.m * 2 ^ K = val BB a.m * 2 ^ K * val BB b.m := by rw [Nat.mul_assoc, Nat.mul_comm (val BB b.m), Nat.mul_assoc]
  rw [e1, Nat.mul_div_cancel _ (by omega), Nat.mul_mod_left, show a.e + b.e - b.e - (K : Int) = a.e - (K : Int) by omega]
  rw [show decide ((0 : Nat) ≠ 0) = false from rfl, cut_exact va (p := (200 : Int).toNat) (by show _ ≤ 200; omega), show (!((!(a.neg == b.neg)) == b.neg)) = a.neg by cases a.neg <;> cases b.neg <;> rfl]
  exact fit_may la ha
theorem mayD_sign {a : Dy} (ha : mayD a = true) (a0 : a.m.length ≠ 0) : mayD ⟨false, a.m, a.e⟩ = true := by
  unfold mayD at ha ⊢
  rw [if_neg a0] at ha
  rw [if_neg (by exact a0)]
  exact ha
theorem root_exact {a s : Dy} {up : Bool} (ha : mayD a = true) (la : Lim BB a.m) (a0 : a.m.length ≠ 0) (a3 : a.m.length ≤ 3)
    (hm : mayD s = true) (hv : val BB s.m = val BB a.m * val BB a.m) (he : s.e = a.e + a.e) (hn : s.neg = (!(a.neg == a.neg))) : rootS s 200 up = (⟨false, a.m, a.e⟩, 0) := by
  obtain ⟨_, va⟩ := mayD_val ha a0
  have ba : blen (val BB a.m) ≤ 192 := Nat.le_trans (blen_limb la) (by omega)
  unfold rootS
  rw [show mayS 200 [s] = true by unfold mayS; simp [hm], cond_true, show s.neg = false by rw [hn]; cases a.neg <;> rfl, cond_false, hv, he]
  obtain ⟨u, hu, ht⟩ := rootK_even (val BB a.m * val BB a.m) (200 : Int).toNat (a.e + a.e)
  rw [ht]
  generalize rootK (val BB a.m * val BB a.m) (200 : Int).toNat (a.e + a.e) = K at *
  obtain ⟨j, hj⟩ : ∃ j : Nat, K = j + j := ⟨K / 2, by omega⟩
  have e1 : val BB a.m * val BB a.m * 2 ^ K = val BB a.m * 2 ^ j * (val BB a.m * 2 ^ j) := by rw [hj, Nat.pow_add, Nat.mul_mul_mul_comm]
  have e2 : nroot (val BB a.m * val BB a.m * 2 ^ K) = val BB a.m * 2 ^ j := by
    rw [e1]
    exact nroot_of (Nat.le_refl _) (Nat.mul_self_lt_mul_self (Nat.lt_succ_self _))
  rw [e2, e1, show u = a.e - (j : Int) by omega, decide_eq_false (fun h => h rfl), cut_exact va (by show _ ≤ 200; omega)]
  exact fit_may (d := ⟨false, a.m, a.e⟩) la (mayD_sign ha a0)
end Go.Proofs.YteodljieiloebaaDoor
