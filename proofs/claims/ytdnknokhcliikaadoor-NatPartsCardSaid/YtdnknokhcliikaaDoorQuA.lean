/- The whole quotient (nat.QuoRem): its plain law. -/
import Derived.Test.YtdnknokhcliikaaDoorDigB
import Derived.Test.YtdnknokhcliikaaDoorNatH
namespace Go.Proofs.YtdnknokhcliikaaDoor
open Go.RowKit Pl

/-- The shift that makes the top limb's first bit 1. -/
theorem top_bits {ys : List Nat} (hl : Lim BB ys) (hc : Cnl ys) (hn : 1 ≤ ys.length) {t s : Nat} (ht : t = nth ys (ys.length - 1)) (hs : s = 64 - blen t) :
    t < BB ∧ blen t ≤ 64 ∧ s ≤ 63 ∧ val BB ys * 2 ^ s < BB ^ ys.length ∧ BB ^ (ys.length - 1) ≤ val BB ys ∧ BB ^ (ys.length - 1) * 2 ^ 63 ≤ val BB ys * 2 ^ s := by
  have htl : t < BB := by rw [ht]; exact hl.getD BB_pos _
  have ht0 : t ≠ 0 := by
    intro h0
    apply hc
    rw [List.getLast?_eq_getElem?]
    rw [ht] at h0
    unfold nth at h0
    rw [List.getD_eq_getElem?_getD] at h0
    rw [List.getElem?_eq_getElem (by omega)] at h0 ⊢
    simpa using h0
  obtain ⟨w1, w2, w3, w4⟩ := norm_word ht0 htl
  rw [← hs] at w1 w2
  have h1 := val_top1 (b := BB) ys hn
  have h2 := val_lt (hl.take (ys.length - 1))
  rw [List.length_take, Nat.min_eq_left (by omega)] at h2
  have f1 : ys.getD (ys.length - 1) 0 = t := ht.symm
  rw [f1] at h1
  have h3 : val BB ys < BB ^ (ys.length - 1) * (t + 1) := by rw [Nat.mul_add, Nat.mul_one]; omega
  have h4 : (t + 1) * 2 ^ s ≤ BB := by
    have h5 := blen_lt_pow t
    have h6 : (t + 1) * 2 ^ s ≤ 2 ^ blen t * 2 ^ s := Nat.mul_le_mul_right _ h5
    rw [← Nat.pow_add, hs, show blen t + (64 - blen t) = 64 by omega, ← BB_eq] at h6
    rw [hs]
    exact h6
  refine ⟨htl, w3, by omega, ?_, ?_, ?_⟩
  · have h5 : val BB ys * 2 ^ s < BB ^ (ys.length - 1) * (t + 1) * 2 ^ s := (Nat.mul_lt_mul_right (Nat.two_pow_pos s)).2 h3
    rw [Nat.mul_assoc] at h5
    have h6 : BB ^ (ys.length - 1) * ((t + 1) * 2 ^ s) ≤ BB ^ (ys.length - 1) * BB := Nat.mul_le_mul_left _ h4
    rw [← Nat.pow_succ, show (ys.length - 1).succ = ys.length by omega] at h6
    omega
  · have h5 : BB ^ (ys.length - 1) * 1 ≤ BB ^ (ys.length - 1) * t := Nat.mul_le_mul_left _ (by omega)
    omega
  · have h5 : BB ^ (ys.length - 1) * 2 ^ 63 ≤ BB ^ (ys.length - 1) * (t * 2 ^ s) := Nat.mul_le_mul_left _ w2
    have h6 : BB ^ (ys.length - 1) * t * 2 ^ s ≤ val BB ys * 2 ^ s := Nat.mul_le_mul_right _ (by omega)
    rw [Nat.mul_assoc] at h6
    omega
/-- A number as so many limbs. -/
theorem pad_val (X k : Nat) : val BB (limbs BB X ++ List.replicate k 0) = X := by
  rw [val_append, limbs_val BB_gt1, val_zeros, Nat.mul_zero, Nat.add_zero]
theorem pad_lim (X k : Nat) : Lim BB (limbs BB X ++ List.replicate k 0) := (limbs_lim BB_gt1 X).append (Lim.zeros BB_pos k)
theorem quo_top {X Y s l n m : Nat} {us0 : List Nat} (hX : X < BB ^ l) (hY : BB ^ (n - 1) ≤ Y) (hnl : n ≤ l) (hn : 1 ≤ n) (hm : m = l - n + 1) (hl : us0.length = l + 1) (hlim : Lim BB us0) (hv : val BB us0 = X * 2 ^ s) :
    val BB (us0.drop m) < Y * 2 ^ s := by
  rw [val_drop_div BB_gt1 hlim (by omega), hv, Nat.div_lt_iff_lt_mul (Nat.pow_pos BB_pos)]
  have h1 : X * 2 ^ s < BB ^ l * 2 ^ s := (Nat.mul_lt_mul_right (Nat.two_pow_pos s)).2 hX
  have h2 : BB ^ (n - 1) * BB ^ m ≤ Y * BB ^ m := Nat.mul_le_mul_right _ hY
  rw [← Nat.pow_add, show n - 1 + m = l by omega] at h2
  have h3 : BB ^ l * 2 ^ s ≤ Y * BB ^ m * 2 ^ s := Nat.mul_le_mul_right _ h2
  rw [Nat.mul_right_comm] at h3
  omega
/-- What the limb's walk asks of the piece. -/
theorem quo_tops {V n J : Nat} {us0 us q vs : List Nat} (h : QuoInv BB V us0 us q n (J + 1)) (hn2 : 2 ≤ n) (hlv : vs.length = n) (hvs : Lim BB vs) (hvv : val BB vs = V) (hV : V < BB ^ n) (hVt : BB ^ (n - 1) ≤ V) (hJ : J < q.length) :
    Tops BB ((us.drop J).take (n + 1)) vs := by
  have hlq := h.lenq
  have hlu := h.len
  have hab := h.above hV hJ
  refine ⟨by omega, by rw [seg_len (by omega), hlv], (h.lim.drop _).take _, hvs, ?_, ?_⟩
  · have h1 := val_top1 (b := BB) vs (by omega)
    have h2 := val_lt (hvs.take (vs.length - 1))
    rw [List.length_take, Nat.min_eq_left (by omega), hlv] at h2
    rw [hlv, hvv] at h1
    rw [hlv]
    rcases Nat.eq_zero_or_pos (vs.getD (n - 1) 0) with h0 | h0
    · rw [h0, Nat.mul_zero, Nat.add_zero] at h1
      omega
    · exact h0
  · rw [hab.1, hvv]
    exact h.small BB_pos (by omega)
theorem quo_end {X Y s n : Nat} {us0 us q : List Nat} (h : QuoInv BB (Y * 2 ^ s) us0 us q n 0) (hv : val BB us0 = X * 2 ^ s) (hY0 : 0 < Y) (hV : Y * 2 ^ s < BB ^ n) (hnu : n ≤ us.length) :
    val BB q = X / Y ∧ val BB (us.take n) / 2 ^ s = X % Y := by
  obtain ⟨h1, h2⟩ := h.last
  rw [hv] at h1 h2
  rw [Nat.mul_div_mul_right _ _ (Nat.two_pow_pos s)] at h1
  rw [Nat.mul_mod_mul_right] at h2
  refine ⟨h1, ?_⟩
  have h3 := val_take_drop (b := BB) us n
  rw [Nat.min_eq_left hnu] at h3
  have h4 : val BB us < BB ^ n := by
    rw [h2]
    have : (X % Y) * 2 ^ s < Y * 2 ^ s := (Nat.mul_lt_mul_right (Nat.two_pow_pos s)).2 (Nat.mod_lt _ hY0)
    omega
  have h5 : val BB (us.drop n) = 0 := by
    rcases Nat.eq_zero_or_pos (val BB (us.drop n)) with h0 | h0
    · exact h0
    · have : BB ^ n * 1 ≤ BB ^ n * val BB (us.drop n) := Nat.mul_le_mul_left _ h0
      omega
  rw [h5, Nat.mul_zero, Nat.add_zero] at h3
  rw [← h3, h2, Nat.mul_div_cancel _ (Nat.two_pow_pos s)]
end Go.Proofs.YtdnknokhcliikaaDoor
