/- sluicewaylaw2: the walk of DyadOnes. Printed by wip/mk_L2E.py. -/
import Derived.Test.YteodljieiloebaaDoorL2Cx
import Derived.Test.YteodljieiloebaaDoorRfHx
namespace Go.Proofs.YteodljieiloebaaDoor
open Go.RowKit Pl
attribute [local go_sem ↓] Go.wp_at_zero Go.wp_at_succ

theorem negS_e {d : Dy} : (negS d).e = d.e := by unfold negS; split <;> rfl
theorem fit_neg {d : Dy} (hl : Lim BB d.m) (h : mayD d = true) : fitS (!d.neg) (val BB d.m) d.e = (negS d, 0) := by
  by_cases h0 : d.m.length = 0
  · have hz := mayD_zero h h0
    rw [hz]
    exact fitS_zero _ _
  · have h1 := fit_may (d := negS d) (negS_lim hl) (negS_may h)
    have hn : negS d = ⟨!d.neg, d.m, d.e⟩ := by unfold negS; rw [if_pos ⟨h, h0⟩]
    rw [hn] at h1 ⊢
    exact h1
theorem ones_may {X k : Nat} (hX : X < BB ^ 20) (hk : k ≤ 200) : mayN (limbs BB (X * 2 ^ k)) = true := by
  refine may_limbs ?_
  have h2 : 2 ^ k < BB ^ 4 := by rw [pow_BB]; exact Nat.pow_lt_pow_right (by omega) (by omega)
  have h3 : X * 2 ^ k < BB ^ 20 * BB ^ 4 := Nat.mul_lt_mul'' hX h2
  rw [← Nat.pow_add] at h3
  exact Nat.lt_of_lt_of_le h3 (Nat.pow_le_pow_right BB_pos (by omega))
theorem normS_shift (neg : Bool) (X k : Nat) (e : Int) (h : mayN (limbs BB (X * 2 ^ k)) = true) : normS neg (limbs BB (X * 2 ^ k)) (e - (k : Int)) = fitS neg X e := by
  unfold normS
  rw [if_pos h, limbs_val BB_gt1, fitS_shift]
theorem ones_cut (j : Int) : ∃ k : Nat, k ≤ 200 ∧ wrap64 ((IntKind.u64.wrap j).tmod 201) = (k : Int) := by
  have h0 : 0 ≤ IntKind.u64.wrap j := by rw [IntKind.wrap_u64]; omega
  rw [Int.tmod_eq_emod_of_nonneg h0]
  have h1 : 0 ≤ IntKind.u64.wrap j % 201 := Int.emod_nonneg _ (by omega)
  have h2 : IntKind.u64.wrap j % 201 < 201 := Int.emod_lt_of_pos _ (by omega)
  refine ⟨(IntKind.u64.wrap j % 201).toNat, by omega, ?_⟩
  rw [IntWalk.wrap64_in _ (by omega)]
  omega
theorem fromX (u : Value) (X : Nat) (w : World) (h : R64 w u X) (hX : blen X ≤ 64 * 100000) :
    Calls Tryd.prog 30 #[u] w fun e w' => (∃ z, e = .returned z ∧ R16 w' z X) ∧ Below w.heap.size w w' := by
  obtain ⟨A, n, c, rfl, hr, hn⟩ := h.limb
  have h1 := from_any A n c _ w hr (limbs_lim BB_gt1 X) (by have := limb_len hX; omega)
  rw [limbs_val BB_gt1] at h1
  exact h1.mono fun e w' ⟨A', n', c', he, hr', hb⟩ => ⟨⟨_, he, ⟨_, _, _, rfl, hr'⟩⟩, hb⟩
theorem shlX (u : Value) (X : Nat) (w : World) (h : R16 w u X) (hX : blen X ≤ 1500000) (j : Nat) (hj : j ≤ 1000000) :
    Calls Tryd.prog 75 #[u, .int .i64 (j : Int)] w fun e w' => (∃ z, e = .returned z ∧ R16 w' z (X * 2 ^ j)) ∧ Below w.heap.size w w' := by
  obtain ⟨A, n, c, rfl, hr⟩ := h
  exact (rshl_any A n c X j w hr (dig_len' hr (show blen X ≤ 16 * 100000 by omega)) hj).mono fun e w' ⟨v, he, hv, hb⟩ => ⟨⟨v, he, hv⟩, hb⟩
theorem limbsX (u : Value) (X : Nat) (w : World) (h : R16 w u X) (hX : blen X ≤ 1500000) :
    Calls Tryd.prog 94 #[u] w fun e w' => (∃ z, e = .returned z ∧ R64 w' z X) ∧ Below w.heap.size w w' := by
  obtain ⟨A, n, c, rfl, hr⟩ := h
  exact (limbs_any A n c X w hr (dig_len' hr (show blen X ≤ 16 * 100000 by omega))).mono fun e w' ⟨v, he, hv, hb⟩ => ⟨⟨v, he, hv⟩, hb⟩

end Go.Proofs.YteodljieiloebaaDoor
