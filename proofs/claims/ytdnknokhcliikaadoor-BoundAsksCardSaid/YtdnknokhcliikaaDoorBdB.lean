/- sluicewaylaw22: told. -/
import Derived.Test.YtdnknokhcliikaaDoorBdA
namespace Go.Proofs.YtdnknokhcliikaaDoor
open Go.RowKit Pl

/-- A power of two as a Dyad, and other one-limb numbers. -/
def onD (x : Nat) (e : Int) : Dy := ⟨false, [x], e⟩
theorem onD_may {x : Nat} (hx : x % 2 = 1) {e : Int} (h1 : -1048576 ≤ e) (h2 : e ≤ 1048576) : mayD (onD x e) = true := by
  have h3 : x ≠ 0 := by omega
  have h4 : mayN [x] = true := by simp [mayN, nth, h3]
  simp only [mayD, onD, h4]
  simp [nth, hx, h1, h2]
theorem onD_sign {x : Nat} (hx : x % 2 = 1) {e : Int} (h1 : -1048576 ≤ e) (h2 : e ≤ 1048576) : signD (onD x e) = 1 := by
  unfold signD
  rw [onD_may hx h1 h2]
  simp [onD]
theorem onD_cmp {x y : Nat} (hx : x % 2 = 1) (hy : y % 2 = 1) {e f : Int} (h1 : -1048576 ≤ e) (h2 : e ≤ 1048576) (h3 : -1048576 ≤ f) (h4 : f ≤ 1048576) : cmpD (onD x e) (onD y f) = cmpSize (onD x e) (onD y f) := by
  unfold cmpD
  rw [onD_may hx h1 h2, onD_may hy h3 h4, onD_sign hx h1 h2, onD_sign hy h3 h4]
  simp
theorem size1 : sizeN [1] = 1 := by decide
theorem size3 : sizeN [3] = 2 := by decide
theorem cmp11 (i k : Int) : cmpSize (onD 1 (-i)) (onD 1 (-k)) = if k < i then -1 else if i < k then 1 else 0 := by
  unfold cmpSize
  simp only [onD, size1]
  by_cases h : k < i
  · rw [if_pos (by omega), if_pos h]
  · rw [if_neg (by omega), if_neg h]
    by_cases h2 : i < k
    · rw [if_pos (by omega), if_pos h2]
    · rw [if_neg (by omega), if_neg h2]
      obtain rfl : i = k := by omega
      simp [cmpN]
theorem cmp13 (i k : Int) : cmpSize (onD 1 (-i)) (onD 3 (-k - 1)) = if k ≤ i then -1 else 1 := by
  unfold cmpSize
  simp only [onD, size1, size3]
  by_cases h : k < i
  · rw [if_pos (by omega), if_pos (by omega)]
  · rw [if_neg (by omega)]
    by_cases h2 : i < k
    · rw [if_pos (by omega), if_neg (by omega)]
    · rw [if_neg (by omega)]
      obtain rfl : i = k := by omega
      have e1 : ((-i - min (-i) (-i - 1)).toNat) = 1 := by omega
      have e2 : ((-i - 1 - min (-i) (-i - 1)).toNat) = 0 := by omega
      rw [e1, e2, if_pos (by omega)]
      decide
theorem cmp31 (i k : Int) : cmpSize (onD 3 (-k - 1)) (onD 1 (-i)) = if k ≤ i then 1 else -1 := by
  unfold cmpSize
  simp only [onD, size1, size3]
  by_cases h : k < i
  · rw [if_neg (by omega), if_pos (by omega), if_pos (by omega)]
  · by_cases h2 : i < k
    · rw [if_pos (by omega), if_neg (by omega)]
    · rw [if_neg (by omega), if_neg (by omega)]
      obtain rfl : i = k := by omega
      have e1 : ((-i - min (-i - 1) (-i)).toNat) = 1 := by omega
      have e2 : ((-i - 1 - min (-i - 1) (-i)).toNat) = 0 := by omega
      rw [e1, e2, if_pos (by omega)]
      decide

theorem good_pow (k i : Nat) (hk : k ≤ 1000000) (hi : i ≤ 1048576) : goodH (onD 1 0) (onD 1 (-(k : Int))) i ↔ i ≤ k := by
  unfold goodH
  have h : cmpD ⟨(onD 1 0).neg, (onD 1 0).m, (onD 1 0).e - (i : Int)⟩ (onD 1 (-(k : Int))) = cmpD (onD 1 (-(i : Int))) (onD 1 (-(k : Int))) := by simp [onD]
  rw [h, onD_cmp rfl rfl (by omega) (by omega) (by omega) (by omega), cmp11]
  simp only [onD]
  split
  · omega
  · split <;> omega
theorem good_pow3 (k i : Nat) (hk : k ≤ 1000000) (hi : i ≤ 1048576) : goodH (onD 1 0) (onD 3 (-(k : Int) - 1)) i ↔ i < k := by
  unfold goodH
  have h : cmpD ⟨(onD 1 0).neg, (onD 1 0).m, (onD 1 0).e - (i : Int)⟩ (onD 3 (-(k : Int) - 1)) = cmpD (onD 1 (-(i : Int))) (onD 3 (-(k : Int) - 1)) := by simp [onD]
  rw [h, onD_cmp rfl rfl (by omega) (by omega) (by omega) (by omega), cmp13]
  simp only [onD]
  split <;> omega
/-- How many attempts, with so many tries and halvings. -/
theorem att_pow {t r : Int} {k : Nat} (h1 : 1 ≤ t) (h2 : t ≤ 20) (hk : k ≤ 1000) (h : AttPost t (onD 1 0) (onD 1 0) (onD 1 (-(k : Int))) r) : r = t * ((k : Int) + 1) := by
  unfold AttPost at h
  rw [onD_sign rfl (by omega) (by omega), onD_sign rfl (by omega) (by omega)] at h
  have hc : cmpD (onD 1 (-(k : Int))) (onD 1 0) = cmpSize (onD 1 (-(k : Int))) (onD 1 (-0)) := onD_cmp rfl rfl (by omega) (by omega) (by omega) (by omega)
  rw [hc, cmp11, if_neg (by split <;> (try split) <;> omega)] at h
  obtain ⟨K, hr, hall, hend⟩ := h
  have hb : ∀ j : Nat, j ≤ 1001 → t * (j : Int) ≤ 20020 := fun j hj => by
    have := Int.mul_le_mul h2 (show (j : Int) ≤ 1001 by omega) (by omega) (by omega)
    omega
  have hKk : K ≤ k := by
    rcases Nat.lt_or_ge k K with hlt | hge
    · have := (good_pow k (k + 1) (by omega) (by omega)).1 (hall (k + 1) (by omega) (by omega)).1
      omega
    · exact hge
  have hkK : k ≤ K := by
    rcases hend with he | he
    · rcases Nat.lt_or_ge K k with hlt | hge
      · exact absurd ((good_pow k (K + 1) (by omega) (by omega)).2 (by omega)) he
      · exact hge
    · have := hb (K + 1) (by omega)
      have e : ((K + 1 : Nat) : Int) = (K : Int) + 1 := by omega
      rw [e] at this
      omega
  obtain rfl : K = k := by omega
  have := hb (K + 1) (by omega)
  have e : ((K + 1 : Nat) : Int) = (K : Int) + 1 := by omega
  rw [e] at this
  rw [hr]
  omega
theorem att_pow3 {t r : Int} {k : Nat} (h1 : 1 ≤ t) (h2 : t ≤ 20) (hk : k ≤ 1000) (h : AttPost t (onD 1 0) (onD 1 0) (onD 3 (-(k : Int) - 1)) r) : r = t * (k : Int) := by
  unfold AttPost at h
  rw [onD_sign rfl (by omega) (by omega), onD_sign rfl (by omega) (by omega)] at h
  have hc : cmpD (onD 3 (-(k : Int) - 1)) (onD 1 0) = cmpSize (onD 3 (-(k : Int) - 1)) (onD 1 (-0)) := onD_cmp rfl rfl (by omega) (by omega) (by omega) (by omega)
  rw [hc, cmp31] at h
  by_cases hk0 : k = 0
  · subst hk0
    rw [if_pos (by simp)] at h
    rw [h]
    simp
  · rw [if_neg (by rw [if_neg (by omega)]; omega)] at h
    obtain ⟨K, hr, hall, hend⟩ := h
    have hb : ∀ j : Nat, j ≤ 1001 → t * (j : Int) ≤ 20020 := fun j hj => by
      have := Int.mul_le_mul h2 (show (j : Int) ≤ 1001 by omega) (by omega) (by omega)
      omega
    have hKk : K < k := by
      rcases Nat.lt_or_ge K k with hlt | hge
      · exact hlt
      · have := (good_pow3 k k (by omega) (by omega)).1 (hall k (by omega) (by omega)).1
        omega
    have e : ((K + 1 : Nat) : Int) = (K : Int) + 1 := by omega
    have hb2 := hb (K + 1) (by omega)
    rw [e] at hb2
    have hkK : k ≤ K + 1 := by
      rcases hend with he | he
      · rcases Nat.lt_or_ge (K + 1) k with hlt | hge
        · exact absurd ((good_pow3 k (K + 1) (by omega) (by omega)).2 (by omega)) he
        · exact hge
      · omega
    obtain rfl : k = K + 1 := by omega
    rw [hr, e]
    omega
end Go.Proofs.YtdnknokhcliikaaDoor
