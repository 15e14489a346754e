/- The inner functions of nat over values that read as naturals; the whole quotient. -/
import Derived.Test.YtdnknokhcliikaaDoorQuB
namespace Go.Proofs.YtdnknokhcliikaaDoor
open Go.RowKit Pl

section
variable (u v : Value) (X Y : Nat) (w : World) (h : R64 w u X) (k : R64 w v Y) (hX : blen X ≤ 3000000) (hY : blen Y ≤ 3000000)
include h k hX in
theorem quoI (hY0 : 0 < Y) : Calls Tryd.prog 65 #[u, v] w fun e w' => Two w' e (X / Y) (X % Y) ∧ Below w.heap.size w w' := by
  obtain ⟨A, n, c, rfl, hr, hn⟩ := h.limb
  obtain ⟨B, m, d, rfl, kr, km⟩ := k.limb
  have hxl := limbs_lim BB_gt1 X
  have hyl := limbs_lim BB_gt1 Y
  have hxc := limbs_can BB_gt1 X
  have hyc := limbs_can BB_gt1 Y
  have hxv := limbs_val BB_gt1 X
  have hyv := limbs_val BB_gt1 Y
  have hn5 : n ≤ 50000 := by have := limb_len (show blen X ≤ 64 * 50000 by omega); omega
  by_cases hlt : X < Y
  · have h1 := quorem_less A n c _ B m d _ w hr kr hxl hyl hxc hyc hn5 (by rw [hxv, hyv]; exact hlt)
    rw [hxv, hyv] at h1
    exact h1
  · by_cases h1 : m ≤ 1
    · have hYB : Y < BB := by
        have h2 := (limbs_len_le BB_gt1 (n := Y) (k := 1)).1 (by omega)
        rwa [Nat.pow_one] at h2
      have e : limbs BB Y = [Y] := limbs_of BB_gt1 (Lim.cons hYB Lim.nil) (by simp [Cnl]; omega) (by simp)
      rw [e] at kr km
      obtain rfl : m = 1 := km.symm
      have h2 := quorem_one A n c _ B d Y w hr kr hxl hxc (by omega) hY0 hYB
      rw [hxv] at h2
      exact h2
    · have h2 := quorem_long A n c _ B m d _ w hr kr hxl hyl hxc hyc hn5 (by omega) (by rw [hxv, hyv]; omega)
      rw [hxv, hyv] at h2
      exact h2
end
/-- The root's first guess, and each further one. -/
theorem newton_start {a : Nat} (_h0 : 0 < a) : nroot a ≤ 2 ^ ((blen a + 1) / 2) := by
  obtain ⟨h1, _⟩ := nroot_spec a
  have h2 := blen_lt_pow a
  rcases Nat.lt_or_ge (2 ^ ((blen a + 1) / 2)) (nroot a) with h | h
  · exfalso
    have h3 : 2 ^ ((blen a + 1) / 2) * 2 ^ ((blen a + 1) / 2) ≤ nroot a * nroot a := Nat.mul_le_mul (by omega) (by omega)
    rw [← Nat.pow_add] at h3
    have h4 : 2 ^ blen a ≤ 2 ^ ((blen a + 1) / 2 + (blen a + 1) / 2) := Nat.pow_le_pow_right (by omega) (by omega)
    omega
  · exact h
theorem newton_end {a x : Nat} (hx : 0 < x) (hle : nroot a ≤ x) (h : x ≤ (x + a / x) / 2) : x = nroot a := by
  have h1 := newton_done hx h
  obtain ⟨_, h3⟩ := nroot_spec a
  rcases Nat.lt_or_ge (nroot a) x with h4 | h4
  · have h5 : (nroot a + 1) * (nroot a + 1) ≤ x * x := Nat.mul_le_mul h4 h4
    omega
  · omega
theorem nroot_pos {a : Nat} (h : 0 < a) : 0 < nroot a := by
  obtain ⟨_, h3⟩ := nroot_spec a
  rcases Nat.eq_zero_or_pos (nroot a) with h0 | h0
  · rw [h0] at h3; omega
  · exact h0
theorem nroot_zero : nroot 0 = 0 := rfl
end Go.Proofs.YtdnknokhcliikaaDoor
