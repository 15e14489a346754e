/- The root of a natural (nat.Square): Newton from above. -/
import Derived.Test.YteodljieiloebaaDoorQuAx
import Derived.Test.YteodljieiloebaaDoorNaAx
namespace Go.Proofs.YteodljieiloebaaDoor
open Go.RowKit Pl

set_option maxRecDepth 100000 in
set_option maxHeartbeats 4000000 in
theorem squareI (u : Value) (X : Nat) (w : World) (h : R64 w u X) (hX : blen X ≤ 1000000) :
    Calls Tryd.prog 72 #[u] w fun e w' => (∃ z, e = .returned z ∧ R64 w' z (nroot X)) ∧ Below w.heap.size w w' := by
  obtain ⟨A, n, c, rfl, hr, hn⟩ := h.limb
  have hmax := hr.max
  have hcap := hr.cap
  unfold maxLen at hmax
  rcases Nat.eq_zero_or_pos n with rfl | hpos
  · have hX0 : X = 0 := (limbs_eq_nil BB_gt1).1 (List.length_eq_zero_iff.1 hn)
    go_enter Tryd.func72, Tryd.ntmps72
    go_wp2
    go_ret
    exact ⟨⟨_, rfl, by rw [hX0, nroot_zero]; exact R64.nil _⟩, Below.refl _ _⟩
  · have hX0 : 0 < X := by
      rcases Nat.eq_zero_or_pos X with h0 | h0
      · rw [h0, limbs_zero] at hn
        simp at hn
        omega
      · exact h0
    have hh : R64 w (.slice A n c) X := ⟨_, _, _, rfl, hr⟩
    obtain ⟨hA, hb0⟩ := box_1 w [.int .u64 1] 58
    have hh0 := hh.below hb0
    have he0 : ((n : Int) == 0) = false := beq_eq_false_iff_ne.2 (by omega)
    have HB := hide hX
    have H1 : Hid (blen X ≤ 3000000) := by unfold Hid; omega
    obtain ⟨k, hk⟩ : ∃ k, k = (blen X + 1) / 2 := ⟨_, rfl⟩
    have hk2 : k ≤ 1000000 := by omega
    have hs0 : Hid (nroot X ≤ 2 ^ k) := by unfold Hid; rw [hk]; exact newton_start hX0
    have EK : Hid (((blen X : Int) + 1) / 2 = (k : Int)) := by unfold Hid; omega
    have hbx : blen (2 ^ k) ≤ 1000001 := by
      have := blen_mul_pow (n := 1) (by omega) k
      rw [Nat.one_mul] at this
      have h1 : blen 1 = 1 := by decide
      omega
    have hbx2 : blen X ≤ 1000000 := hX
    clear h hh hr hn hX hcap hmax hk
    go_enter Tryd.func72, Tryd.ntmps72
    go_wp2_with fail
    generalize (w.alloc (.cells #[.int .u64 1] 58)) = W at *
    refine (sizeI _ X _ hh0 H1.out).mono ?_
    rintro e w' ⟨rfl, rfl⟩
    go_wp2_with fail
    rw [EK.out]
    refine (leftI _ 1 _ (R64b 1 hA (by omega) BB_gt1) (by decide) k hk2).mono ?_
    rw [Nat.one_mul]
    rintro e w1 ⟨⟨x0, rfl, hx0⟩, hb1⟩
    have hh1 := hh0.below hb1
    have hb01 := below_then hb0 hb1
    clear hh0 hb0 hb1 hA EK he0 hbx2
    go_wp2
    go_loopw [3] (fun v wr => ∃ x : Nat, Hid (nroot X ≤ x ∧ x ≤ 2 ^ k) ∧ R64 wr v x ∧ Below w1.heap.size w1 wr) (fun v wr => Classical.epsilon (fun x => R64 wr v x))
    case atStart => exact ⟨2 ^ k, ⟨hs0.out, Nat.le_refl _⟩, hx0, Below.refl _ _⟩
    case round =>
      obtain ⟨x, hx, hvx, hbw⟩ := hrel
      have hxp : 0 < x := Nat.lt_of_lt_of_le (nroot_pos hX0) hx.out.1
      have hxb : blen x ≤ 3000000 := Nat.le_trans (Nat.le_trans (blen_mono hx.out.2) hbx) (by omega)
      have hhr := hh1.below hbw
      have hb0r := below_then hb01 hbw
      have hbw0 := hbw
      have HV := hide hvx
      clear hbw
      go_wp2_with fail
      refine (quoI _ _ X x _ hhr hvx H1.out hxp).mono ?_
      rintro e w2 ⟨⟨q, r, rfl, hq, _⟩, hb2⟩
      have hvx2 := hvx.below hb2
      have hb02 := below_then hb0r hb2
      have hqb : blen (X / x) ≤ 3000000 := Nat.le_trans (blen_mono (Nat.div_le_self _ _)) H1.out
      clear hvx
      go_wp2_with fail
      refine (plusI _ _ x (X / x) _ hvx2 hq hxb hqb).mono ?_
      rintro e w3 ⟨⟨s, rfl, hs⟩, hb3⟩
      have hvx3 := hvx2.below hb3
      have hb03 := below_then hb02 hb3
      clear hvx2 hq
      have hsb : blen (x + X / x) ≤ 3000000 := by
        have h1 : blen x ≤ 1000001 := Nat.le_trans (blen_mono hx.out.2) hbx
        have h2 : blen (X / x) ≤ 1000001 := Nat.le_trans (blen_mono (Nat.div_le_self _ _)) (by have := HB.out; omega)
        exact Nat.le_trans (blen_plus h1 h2) (by omega)
      go_wp2_with fail
      refine (rightI _ (x + X / x) _ hs hsb 1 (by omega)).mono ?_
      rintro e w4 ⟨⟨y, rfl, hy⟩, hb4⟩
      have hvx4 := hvx3.below hb4
      have hb04 := below_then hb03 hb4
      clear hvx3 hs
      go_wp2_with fail
      refine (orderI _ _ _ _ _ hy hvx4).mono ?_
      rintro e w5 ⟨rfl, hb5⟩
      have hvx5 := hvx4.below hb5
      have hy5 := hy.below hb5
      have hb05 := below_then hb04 hb5
      have hbL : Below w1.heap.size w1 w5 := below_then (below_then (below_then (below_then hbw0 hb2) hb3) hb4) hb5
      clear hvx4 hy hb04 hb03 hb02 hb0r hb2 hb3 hb4 hb5 hbw0
      rw [Nat.pow_one] at hy5 ⊢
      obtain ⟨z, hz⟩ : ∃ z, z = (x + X / x) / 2 := ⟨_, rfl⟩
      rw [← hz] at hy5 ⊢
      rcases Nat.lt_or_ge z x with hlt | hge
      · have hc : cmpN z x = -1 := by unfold cmpN; rw [if_pos hlt]
        rw [hc]
        have hz2 : Hid (nroot X ≤ z ∧ z ≤ 2 ^ k) := by
          unfold Hid
          refine ⟨?_, Nat.le_trans (Nat.le_of_lt hlt) hx.out.2⟩
          rw [hz]
          exact newton_step hxp (nroot_spec X).1
        clear hc hz hxb hqb hsb hX0
        go_wp2
        go_roundw
        case rel => exact ⟨z, hz2, hy5, hbL⟩
        case measure =>
          rw [eps_R64 hy5, eps_R64 HV.out]
          exact hlt
      · have hc : decide (cmpN z x ≥ 0) = true := by
          unfold cmpN
          rw [if_neg (by omega)]
          split <;> rfl
        have hxe : Hid (x = nroot X) := newton_end hxp hx.out.1 (by rw [← hz]; exact hge)
        obtain ⟨q, hq⟩ : ∃ q, q = cmpN z x := ⟨_, rfl⟩
        rw [← hq] at hc ⊢
        clear hq hz hxb hqb hsb hX0
        go_wp2
        go_ret
        exact ⟨⟨_, rfl, by rw [← hxe.out]; exact hvx5⟩, hb05⟩
end Go.Proofs.YteodljieiloebaaDoor
