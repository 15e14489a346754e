/- The faces of nat over values that read as naturals. -/
import Derived.Test.YtdnknokhcliikaaDoorNaC
namespace Go.Proofs.YtdnknokhcliikaaDoor
open Go.RowKit Pl

section
variable (u v : Value) (X Y : Nat) (w : World) (h : R64 w u X) (k : R64 w v Y) (hX : X < BB ^ 64) (hY : Y < BB ^ 64)
include h hX in
theorem lenV : Calls Tryd.prog 27 #[u] w fun e w' => e = .returned (.int .i64 (blen X : Nat)) ∧ w = w' := by
  obtain ⟨A, n, c, rfl, hr⟩ := h
  have h1 := lenF_any A n c _ w hr (limbs_lim BB_gt1 X)
  rw [if_pos (may_limbs hX), sizeN_can (limbs_lim BB_gt1 X) (limbs_can BB_gt1 X), limbs_val BB_gt1] at h1
  exact h1
include h hX in
theorem lowV (hT : TabAt w) (h0 : X ≠ 0) : Calls Tryd.prog 28 #[u] w fun e w' => e = .returned (.int .i64 (tz X : Nat)) ∧ w = w' := by
  obtain ⟨A, n, c, rfl, hr⟩ := h
  have h1 := lowF_any A n c _ w hr (limbs_lim BB_gt1 X) hT
  have h2 : val BB (limbs BB X) = X := limbs_val BB_gt1 X
  rw [if_pos (may_limbs hX), zerosN_val (by rw [h2]; exact h0), h2] at h1
  exact h1
include h k hX hY in
theorem cmpV : Calls Tryd.prog 42 #[u, v] w fun e w' => e = .returned (.int .i64 (cmpN X Y)) ∧ Below w.heap.size w w' := by
  obtain ⟨A, n, c, rfl, hr⟩ := h
  obtain ⟨B, m, d, rfl, kr⟩ := k
  have h1 := cmpF_any A n c _ B m d _ w hr kr
  rw [if_pos (by rw [may_limbs hX, may_limbs hY]; rfl), cmpL_limbs BB_gt1] at h1
  exact h1
include h k hX hY in
theorem addV : Calls Tryd.prog 34 #[u, v] w fun e w' => Tup w' e (capF (X + Y)) ∧ Below w.heap.size w w' := by
  obtain ⟨A, n, c, rfl, hr⟩ := h
  obtain ⟨B, m, d, rfl, kr⟩ := k
  have h1 := addF_any A n c _ B m d _ w hr kr (limbs_lim BB_gt1 X) (limbs_lim BB_gt1 Y)
  rw [if_pos (by rw [may_limbs hX, may_limbs hY]; rfl), limbs_val BB_gt1, limbs_val BB_gt1] at h1
  exact h1
include h k hX hY in
theorem mulV : Calls Tryd.prog 36 #[u, v] w fun e w' => Tup w' e (capF (X * Y)) ∧ Below w.heap.size w w' := by
  obtain ⟨A, n, c, rfl, hr⟩ := h
  obtain ⟨B, m, d, rfl, kr⟩ := k
  have h1 := mulF_any A n c _ B m d _ w hr kr (limbs_lim BB_gt1 X) (limbs_lim BB_gt1 Y)
  rw [if_pos (by rw [may_limbs hX, may_limbs hY]; rfl), limbs_val BB_gt1, limbs_val BB_gt1] at h1
  exact h1
include h k hX hY in
theorem addW (hS : X + Y < BB ^ 64) : Calls Tryd.prog 34 #[u, v] w fun e w' => (∃ z, e = .returned (.tuple #[z, .int .i64 0]) ∧ R64 w' z (X + Y)) ∧ Below w.heap.size w w' := by
  have h1 := addV u v X Y w h k hX hY
  rw [capF_lt hS] at h1
  exact h1
include h k hX hY in
theorem mulW (hS : X * Y < BB ^ 64) : Calls Tryd.prog 36 #[u, v] w fun e w' => (∃ z, e = .returned (.tuple #[z, .int .i64 0]) ∧ R64 w' z (X * Y)) ∧ Below w.heap.size w w' := by
  have h1 := mulV u v X Y w h k hX hY
  rw [capF_lt hS] at h1
  exact h1
include h k hX hY in
theorem subW (hle : Y ≤ X) : Calls Tryd.prog 41 #[u, v] w fun e w' => (∃ z, e = .returned (.tuple #[z, .int .i64 0]) ∧ R64 w' z (X - Y)) ∧ Below w.heap.size w w' := by
  obtain ⟨A, n, c, rfl, hr⟩ := h
  obtain ⟨B, m, d, rfl, kr⟩ := k
  have h1 := subF_any A n c _ B m d _ w hr kr (limbs_lim BB_gt1 X) (limbs_lim BB_gt1 Y)
  rw [limbs_val BB_gt1, limbs_val BB_gt1, if_pos ⟨by rw [may_limbs hX, may_limbs hY]; rfl, hle⟩] at h1
  exact h1
include h hX in
theorem shrW (j : Nat) (hj : j ≤ 1000000) : Calls Tryd.prog 21 #[u, .int .i64 (j : Int)] w fun e w' => (∃ z, e = .returned (.tuple #[z, .int .i64 0]) ∧ R64 w' z (X / 2 ^ j)) ∧ Below w.heap.size w w' := by
  obtain ⟨A, n, c, rfl, hr⟩ := h
  have h1 := shrF_any A n c _ w hr (limbs_lim BB_gt1 X) (j : Int) (by omega) (by omega)
  rw [shrR_good (may_limbs hX) (by omega), limbs_val BB_gt1, Int.toNat_natCast] at h1
  exact h1
include h hX in
theorem shlW (j : Nat) (hj : j ≤ 1000000) (hS : X * 2 ^ j < BB ^ 64) : Calls Tryd.prog 20 #[u, .int .i64 (j : Int)] w fun e w' => (∃ z, e = .returned (.tuple #[z, .int .i64 0]) ∧ R64 w' z (X * 2 ^ j)) ∧ Below w.heap.size w w' := by
  obtain ⟨A, n, c, rfl, hr⟩ := h
  have h1 := shlF_any A n c _ w hr (limbs_lim BB_gt1 X) (j : Int) (by omega) (by omega)
  by_cases h0 : (limbs BB X).length = 0
  · have e := List.length_eq_zero_iff.1 h0
    have hz : X = 0 := (limbs_eq_nil BB_gt1).1 e
    rw [e, shlR_nil (by omega)] at h1
    rw [hz, Nat.zero_mul]
    exact h1
  · rw [shlR_cap (limbs_lim BB_gt1 X) (may_limbs hX) h0 (by omega), limbs_val BB_gt1, Int.toNat_natCast, capF_lt hS] at h1
    exact h1
end
end Go.Proofs.YtdnknokhcliikaaDoor
