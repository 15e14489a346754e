/- Plain arithmetic, part B: the quotient of two words by one (halves of words). No program in sight. -/
import Derived.Test.YtdnknokhcliikaaDoorPl
namespace Go.Proofs.YtdnknokhcliikaaDoor.Pl

section
variable {b y1 y0 t u x R : Nat}
/-- The estimate of one half digit. -/
structure HalfInv (b y1 y0 t u x R : Nat) : Prop where
  ge : (t * b + u) / (y1 * b + y0) ≤ x
  sum : x * y1 + R = t
  small : R < b
theorem HalfInv.start (hy : 0 < y1) (hy1 : y1 ≤ b) (hu : u < b) : HalfInv b y1 y0 t u (t / y1) (t % y1) := by
  have hb : 0 < b := by omega
  refine ⟨?_, ?_, Nat.lt_of_lt_of_le (Nat.mod_lt _ hy) hy1⟩
  · have h1 : (t * b + u) / (y1 * b + y0) ≤ (t * b + u) / (y1 * b) := Nat.div_le_div_left (by omega) (Nat.mul_pos hy hb)
    refine Nat.le_trans h1 ?_
    rw [Nat.mul_comm y1, ← Nat.div_div_eq_div_mul, Nat.mul_comm t, Nat.mul_add_div hb, Nat.div_eq_of_lt hu]
    exact Nat.le_refl _
  · rw [Nat.mul_comm]; exact Nat.div_add_mod t y1
theorem half_eq (h : x * y1 + R = t) : t * b + u = x * (y1 * b) + (R * b + u) := by
  rw [← h, Nat.add_mul, Nat.mul_assoc, Nat.add_assoc]
theorem HalfInv.step (h : HalfInv b y1 y0 t u x R) (hlt : t * b + u < b * (y1 * b + y0)) (hc : b ≤ x ∨ R * b + u < x * y0) : 0 < x ∧ (t * b + u) / (y1 * b + y0) ≤ x - 1 ∧ (x - 1) * y1 + (R + y1) = t := by
  have hV : 0 < y1 * b + y0 := by
    rcases Nat.eq_zero_or_pos (y1 * b + y0) with e | e
    · rw [e, Nat.mul_zero] at hlt; omega
    · exact e
  have hq : (t * b + u) / (y1 * b + y0) < b := (Nat.div_lt_iff_lt_mul hV).2 hlt
  have h1 : (t * b + u) / (y1 * b + y0) < x := by
    rcases hc with hc | hc
    · omega
    · rw [Nat.div_lt_iff_lt_mul hV, half_eq h.sum, Nat.mul_add]
      omega
  have hx : 0 < x := Nat.lt_of_le_of_lt (Nat.zero_le _) h1
  refine ⟨hx, by omega, ?_⟩
  have h2 := h.sum
  obtain ⟨z, rfl⟩ : ∃ z, x = z + 1 := ⟨x - 1, by omega⟩
  rw [Nat.add_mul, Nat.one_mul] at h2
  simp only [Nat.add_sub_cancel]
  omega
theorem half_done (hge : (t * b + u) / (y1 * b + y0) ≤ x) (hs : x * y1 + R = t) (hV : 0 < y1 * b + y0) (hc : x * y0 ≤ R * b + u) : x = (t * b + u) / (y1 * b + y0) := by
  refine Nat.le_antisymm ?_ hge
  rw [Nat.le_div_iff_mul_le hV, half_eq hs, Nat.mul_add]
  omega
theorem half_over (hge : (t * b + u) / (y1 * b + y0) ≤ x) (hs : x * y1 + R = t) (hlt : t * b + u < b * (y1 * b + y0)) (hy0 : y0 < b) (hR : b ≤ R) : x = (t * b + u) / (y1 * b + y0) ∧ x < b := by
  have hb : 0 < b := by omega
  have hV : 0 < y1 * b + y0 := by
    rcases Nat.eq_zero_or_pos (y1 * b + y0) with e | e
    · rw [e, Nat.mul_zero] at hlt; omega
    · exact e
  have h1 : t < y1 * b + y0 := by
    have : t * b < b * (y1 * b + y0) := by omega
    rw [Nat.mul_comm] at this
    exact Nat.lt_of_mul_lt_mul_left this
  have hxb : x < b := by
    have h2 : x * y1 < y1 * b := by omega
    rw [Nat.mul_comm] at h2
    exact Nat.lt_of_mul_lt_mul_left h2
  have h3 : x * y0 ≤ b * R := Nat.mul_le_mul (by omega) (by omega)
  rw [Nat.mul_comm b] at h3
  exact ⟨half_done hge hs hV (by omega), hxb⟩
end
/-- Halves of a word. -/
def HH : Nat := 4294967296
theorem HH_sq : HH * HH = BB := rfl
/-- What the two steps give. -/
theorem div64_join {N y s t u1 u0 q1 r1 q0 r0 : Nat} (hy : 0 < y) (hN : N * 2 ^ s = (t * HH + u1) * HH + u0) (h1 : q1 = (t * HH + u1) / (y * 2 ^ s)) (h2 : r1 = (t * HH + u1) % (y * 2 ^ s))
    (h3 : q0 = (r1 * HH + u0) / (y * 2 ^ s)) (h4 : r0 = (r1 * HH + u0) % (y * 2 ^ s)) : q1 * HH + q0 = N / y ∧ r0 / 2 ^ s = N % y := by
  have hV : 0 < y * 2 ^ s := Nat.mul_pos hy (Nat.two_pow_pos s)
  have e1 := Nat.div_add_mod (t * HH + u1) (y * 2 ^ s)
  rw [← h1, ← h2] at e1
  have e2 := Nat.div_add_mod (r1 * HH + u0) (y * 2 ^ s)
  rw [← h3, ← h4] at e2
  have hr : r0 < y * 2 ^ s := by rw [h4]; exact Nat.mod_lt _ hV
  have e3 : N * 2 ^ s = (y * 2 ^ s) * (q1 * HH + q0) + r0 := by
    rw [hN, ← e1, Nat.add_mul, Nat.add_assoc, ← e2, Nat.mul_add, Nat.mul_assoc, Nat.add_assoc]
  have e4 : N * 2 ^ s / (y * 2 ^ s) = q1 * HH + q0 := by rw [e3, Nat.mul_add_div hV, Nat.div_eq_of_lt hr, Nat.add_zero]
  have e5 : N * 2 ^ s % (y * 2 ^ s) = r0 := by rw [e3, Nat.mul_add_mod, Nat.mod_eq_of_lt hr]
  rw [Nat.mul_div_mul_right _ _ (Nat.two_pow_pos s)] at e4
  rw [Nat.mul_mod_mul_right] at e5
  exact ⟨e4.symm, by rw [← e5, Nat.mul_div_cancel _ (Nat.two_pow_pos s)]⟩
/-- The shifted words. -/
theorem div64_words {hi lo s : Nat} (hs : s < 64) : (hi * BB + lo) * 2 ^ s = (hi * 2 ^ s + lo / 2 ^ (64 - s)) * BB + lo * 2 ^ s % BB := by
  have h1 := Nat.div_add_mod (lo * 2 ^ s) BB
  have h2 : lo * 2 ^ s / BB = lo / 2 ^ (64 - s) := by
    rw [BB_eq, show (64 : Nat) = (64 - s) + s by omega, Nat.pow_add, Nat.mul_div_mul_right _ _ (Nat.two_pow_pos s)]
    congr 2; omega
  rw [h2] at h1
  rw [Nat.add_mul, Nat.add_mul, Nat.add_assoc, Nat.mul_comm (lo / 2 ^ (64 - s)) BB, h1]
  congr 1
  rw [Nat.mul_assoc, Nat.mul_assoc, Nat.mul_comm BB]
/-- A rest by words that go round. -/
theorem rest_round {t u q V : Nat} (hq : q = (t * HH + u) / V) (hV : V < BB) (hV0 : 0 < V) :
    ((t * HH % BB + u) % BB + BB - (q * V) % BB) % BB = (t * HH + u) % V := by
  have h1 := Nat.div_add_mod (t * HH + u) V
  have hr : (t * HH + u) % V < V := Nat.mod_lt _ hV0
  generalize (t * HH + u) % V = r at *
  rw [← hq] at h1
  have h2 : (t * HH % BB + u) % BB = (q * V + r) % BB := by rw [Nat.mod_add_mod, ← h1, Nat.mul_comm]
  rw [h2]
  generalize q * V = p
  unfold BB at *
  omega
/-- A word with its first bit set. -/
theorem norm_word {y : Nat} (hy0 : y ≠ 0) (hy : y < BB) : y * 2 ^ (64 - blen y) < BB ∧ 2 ^ 63 ≤ y * 2 ^ (64 - blen y) ∧ blen y ≤ 64 ∧ 1 ≤ blen y := by
  have h1 : blen y ≤ 64 := blen_le.2 hy
  have h2 : 0 < blen y := blen_pos.2 hy0
  have h3 : blen (y * 2 ^ (64 - blen y)) = 64 := by rw [blen_mul_pow hy0]; omega
  refine ⟨?_, ?_, h1, h2⟩
  · have := blen_lt_pow (y * 2 ^ (64 - blen y))
    rw [h3] at this
    exact this
  · have := pow_le_blen (n := y * 2 ^ (64 - blen y)) (by intro e; rw [e] at h3; cases h3)
    rw [h3] at this
    exact this
end Go.Proofs.YtdnknokhcliikaaDoor.Pl
