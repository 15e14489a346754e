/- The inner functions of nat over values that read as naturals; the whole quotient. -/
import Derived.Test.YtdnknokhcliikaaDoorQuB
import Derived.Test.YtdnknokhcliikaaDoorNaD
namespace Go.Proofs.YtdnknokhcliikaaDoor
open Go.RowKit Pl

theorem limb_len {X k : Nat} (h : blen X ≤ 64 * k) : (limbs BB X).length ≤ k := by
  rw [limbs_len_le BB_gt1, pow_BB]
  exact blen_le.1 h
theorem R64.limb {w : World} {u : Value} {X : Nat} (h : R64 w u X) : ∃ A n c, u = .slice A n c ∧ RdN .u64 w A n c (limbs BB X) ∧ (limbs BB X).length = n := by
  obtain ⟨A, n, c, hu, hr⟩ := h
  exact ⟨A, n, c, hu, hr, hr.len⟩
section
variable (u v : Value) (X Y : Nat) (w : World) (h : R64 w u X) (k : R64 w v Y) (hX : blen X ≤ 3000000) (hY : blen Y ≤ 3000000)
include h hX in
theorem leftI (j : Nat) (hj : j ≤ 1000000) : Calls Tryd.prog 54 #[u, .int .i64 (j : Int)] w fun e w' => (∃ z, e = .returned z ∧ R64 w' z (X * 2 ^ j)) ∧ Below w.heap.size w w' := by
  obtain ⟨A, n, c, rfl, hr, hn⟩ := h.limb
  have h1 := left_any A n c _ j w hr (limbs_lim BB_gt1 X) (by have := limb_len (show blen X ≤ 64 * 50000 by omega); omega) hj
  rw [limbs_val BB_gt1] at h1
  exact h1.mono fun e w' ⟨A', n', c', he, hr', hb⟩ => ⟨⟨_, he, _, _, _, rfl, hr'⟩, hb⟩
include h hX in
theorem rightI (j : Nat) (hj : j ≤ 10000000) : Calls Tryd.prog 55 #[u, .int .i64 (j : Int)] w fun e w' => (∃ z, e = .returned z ∧ R64 w' z (X / 2 ^ j)) ∧ Below w.heap.size w w' := by
  obtain ⟨A, n, c, rfl, hr, hn⟩ := h.limb
  have h1 := right_any A n c _ j w hr (limbs_lim BB_gt1 X) (by have := limb_len (show blen X ≤ 64 * 50000 by omega); omega) hj
  rw [limbs_val BB_gt1] at h1
  exact h1.mono fun e w' ⟨A', n', c', he, hr', hb⟩ => ⟨⟨_, he, _, _, _, rfl, hr'⟩, hb⟩
include h k hX hY in
theorem plusI : Calls Tryd.prog 63 #[u, v] w fun e w' => (∃ z, e = .returned z ∧ R64 w' z (X + Y)) ∧ Below w.heap.size w w' := by
  obtain ⟨A, n, c, rfl, hr, hn⟩ := h.limb
  obtain ⟨B, m, d, rfl, kr, km⟩ := k.limb
  have h1 := plus_any A n c _ B m d _ w hr kr (limbs_lim BB_gt1 X) (limbs_lim BB_gt1 Y) (by have := limb_len (show blen X ≤ 64 * 50000 by omega); omega) (by have := limb_len (show blen Y ≤ 64 * 50000 by omega); omega)
  rw [limbs_val BB_gt1, limbs_val BB_gt1] at h1
  exact h1.mono fun e w' ⟨z, he, hr', hb⟩ => ⟨⟨z, he, hr'⟩, hb⟩
include h k hX hY in
theorem timesI : Calls Tryd.prog 64 #[u, v] w fun e w' => (∃ z, e = .returned z ∧ R64 w' z (X * Y)) ∧ Below w.heap.size w w' := by
  obtain ⟨A, n, c, rfl, hr, hn⟩ := h.limb
  obtain ⟨B, m, d, rfl, kr, km⟩ := k.limb
  have h1 := times_any A n c _ B m d _ w hr kr (limbs_lim BB_gt1 X) (limbs_lim BB_gt1 Y) (by have := limb_len (show blen X ≤ 64 * 50000 by omega); omega) (by have := limb_len (show blen Y ≤ 64 * 50000 by omega); omega)
  rw [limbs_val BB_gt1, limbs_val BB_gt1] at h1
  exact h1.mono fun e w' ⟨z, he, hr', hb⟩ => ⟨⟨z, he, hr'⟩, hb⟩
include h k hX in
theorem minusI (hle : Y ≤ X) : Calls Tryd.prog 68 #[u, v] w fun e w' => (∃ z, e = .returned z ∧ R64 w' z (X - Y)) ∧ Below w.heap.size w w' := by
  obtain ⟨A, n, c, rfl, hr, hn⟩ := h.limb
  obtain ⟨B, m, d, rfl, kr, km⟩ := k.limb
  have hlen := can_len (limbs_lim BB_gt1 X) (limbs_lim BB_gt1 Y) (limbs_can BB_gt1 Y) (by rw [limbs_val BB_gt1, limbs_val BB_gt1]; exact hle)
  have h1 := minus_any A n c _ B m d _ w hr kr (limbs_lim BB_gt1 X) (limbs_lim BB_gt1 Y) (by have := limb_len (show blen X ≤ 64 * 50000 by omega); omega) (by omega) (by rw [limbs_val BB_gt1, limbs_val BB_gt1]; exact hle)
  rw [limbs_val BB_gt1, limbs_val BB_gt1] at h1
  exact h1.mono fun e w' ⟨z, he, hr', hb⟩ => ⟨⟨z, he, hr'⟩, hb⟩
include h hX in
theorem sizeI : Calls Tryd.prog 53 #[u] w fun e w' => e = .returned (.int .i64 (blen X : Nat)) ∧ w = w' := by
  obtain ⟨A, n, c, rfl, hr, hn⟩ := h.limb
  have h1 := size_any A n c _ w hr (limbs_lim BB_gt1 X) (by have := limb_len (show blen X ≤ 64 * 50000 by omega); omega)
  rw [sizeN_can (limbs_lim BB_gt1 X) (limbs_can BB_gt1 X), limbs_val BB_gt1] at h1
  exact h1
include h hX in
theorem zerosI (hT : TabAt w) (h0 : X ≠ 0) : Calls Tryd.prog 59 #[u] w fun e w' => e = .returned (.int .i64 (tz X : Nat)) ∧ w = w' := by
  obtain ⟨A, n, c, rfl, hr, hn⟩ := h.limb
  have h1 := zeros_any A n c _ w hr (limbs_lim BB_gt1 X) (by have := limb_len (show blen X ≤ 64 * 50000 by omega); omega) hT
  have h2 : val BB (limbs BB X) = X := limbs_val BB_gt1 X
  rw [zerosN_val (by rw [h2]; exact h0), h2] at h1
  exact h1
include h k in
theorem orderI : Calls Tryd.prog 67 #[u, v] w fun e w' => e = .returned (.int .i64 (cmpN X Y)) ∧ Below w.heap.size w w' := by
  obtain ⟨A, n, c, rfl, hr, hn⟩ := h.limb
  obtain ⟨B, m, d, rfl, kr, km⟩ := k.limb
  have h1 := order_any A n c _ B m d _ w hr kr
  rw [cmpL_limbs BB_gt1] at h1
  exact h1
include h k hX in
theorem quoI (hY0 : 0 < Y) : Calls Tryd.prog 65 #[u, v] w fun e w' => Two w' e (X / Y) (X % Y) ∧ Below w.heap.size w w' := by
  obtain ⟨A, n, c, rfl, hr, hn⟩ := h.limb
  obtain ⟨B, m, d, rfl, kr, km⟩ := k.limb
  have hxl := limbs_lim BB_gt1 X
  have hyl := limbs_lim BB_gt1 Y
  have hxc := limbs_can BB_gt1 X
  have hyc := limbs_can BB_gt1 Y
  have hxv := limbs_val BB_gt1 X
  have hyv := limbs_val BB_gt1 Y
  have hn5 : n ≤ 50000 := by have := limb_len (show blen X ≤ 64 * 50000 by omega); omega
  by_cases hlt : X < Y
  · have h1 := quorem_less A n c _ B m d _ w hr kr hxl hyl hxc hyc hn5 (by rw [hxv, hyv]; exact hlt)
    rw [hxv, hyv] at h1
    exact h1
  · by_cases h1 : m ≤ 1
    · have hYB : Y < BB := by
        have h2 := (limbs_len_le BB_gt1 (n := Y) (k := 1)).1 (by omega)
        rwa [Nat.pow_one] at h2
      have e : limbs BB Y = [Y] := limbs_of BB_gt1 (Lim.cons hYB Lim.nil) (by simp [Cnl]; omega) (by simp)
      rw [e] at kr km
      obtain rfl : m = 1 := km.symm
      have h2 := quorem_one A n c _ B d Y w hr kr hxl hxc (by omega) hY0 hYB
      rw [hxv] at h2
      exact h2
    · have h2 := quorem_long A n c _ B m d _ w hr kr hxl hyl hxc hyc hn5 (by omega) (by rw [hxv, hyv]; omega)
      rw [hxv, hyv] at h2
      exact h2
end
/-- Numbers are told by where they lie. -/
theorem R64.uniq {w : World} {u : Value} {X Y : Nat} (h : R64 w u X) (k : R64 w u Y) : X = Y := by
  obtain ⟨A, n, c, rfl, hr⟩ := h
  obtain ⟨B, m, d, e, kr⟩ := k
  injection e with e1 e2 e3
  subst e1 e2 e3
  refine limbs_inj BB_gt1 (List.ext_getElem (by rw [hr.len, kr.len]) ?_)
  intro i h1 h2
  rw [hr.len] at h1
  obtain ⟨b, off, rfl, _, hc⟩ := hr.at_ (by omega)
  obtain ⟨b2, off2, e, _, kc⟩ := kr.at_ (by omega)
  injection e with e
  injection e with e1 e2
  subst e1 e2
  have h3 := (hc i h1).symm.trans (kc i h1)
  unfold nth at h3
  rw [List.getD_eq_getElem?_getD, List.getD_eq_getElem?_getD, List.getElem?_eq_getElem (by rw [hr.len]; exact h1), List.getElem?_eq_getElem h2] at h3
  simp only [Option.getD_some] at h3
  injection h3 with h3
  injection h3 with _ h3
  exact Int.ofNat_inj.1 h3
theorem eps_R64 {w : World} {u : Value} {X : Nat} (h : R64 w u X) : Classical.epsilon (fun X => R64 w u X) = X :=
  (Classical.epsilon_spec (p := fun X => R64 w u X) ⟨X, h⟩).uniq h
theorem blen_plus {X Y a : Nat} (h : blen X ≤ a) (k : blen Y ≤ a) : blen (X + Y) ≤ a + 1 := by
  rw [blen_le] at *
  rw [Nat.pow_succ]
  omega
/-- The root's first guess, and each further one. -/
theorem newton_start {a : Nat} (_h0 : 0 < a) : nroot a ≤ 2 ^ ((blen a + 1) / 2) := by
  obtain ⟨h1, _⟩ := nroot_spec a
  have h2 := blen_lt_pow a
  rcases Nat.lt_or_ge (2 ^ ((blen a + 1) / 2)) (nroot a) with h | h
  · exfalso
    have h3 : 2 ^ ((blen a + 1) / 2) * 2 ^ ((blen a + 1) / 2) ≤ nroot a * nroot a := Nat.mul_le_mul (by omega) (by omega)
    rw [← Nat.pow_add] at h3
    have h4 : 2 ^ blen a ≤ 2 ^ ((blen a + 1) / 2 + (blen a + 1) / 2) := Nat.pow_le_pow_right (by omega) (by omega)
    omega
  · exact h
theorem newton_end {a x : Nat} (hx : 0 < x) (hle : nroot a ≤ x) (h : x ≤ (x + a / x) / 2) : x = nroot a := by
  have h1 := newton_done hx h
  obtain ⟨_, h3⟩ := nroot_spec a
  rcases Nat.lt_or_ge (nroot a) x with h4 | h4
  · have h5 : (nroot a + 1) * (nroot a + 1) ≤ x * x := Nat.mul_le_mul h4 h4
    omega
  · omega
theorem nroot_pos {a : Nat} (h : 0 < a) : 0 < nroot a := by
  obtain ⟨_, h3⟩ := nroot_spec a
  rcases Nat.eq_zero_or_pos (nroot a) with h0 | h0
  · rw [h0] at h3; omega
  · exact h0
theorem nroot_zero : nroot 0 = 0 := rfl
end Go.Proofs.YtdnknokhcliikaaDoor
