/- Contracts of package nat, part B: lengths, lowest bits. -/
import Derived.Test.YtaifjldpjkabjaaDoorNatA
namespace Go.Proofs.YtaifjldpjkabjaaDoor
open Go.RowKit Pl

/-- nat.Size: of limbs without noughts at their end, the number of bits. -/
def sizeN (xs : List Nat) : Nat := if xs.length = 0 then 0 else 64 * (xs.length - 1) + blen (nth xs (xs.length - 1))
theorem sizeN_can {xs : List Nat} (hl : Lim BB xs) (hc : Cnl xs) : sizeN xs = blen (val BB xs) := by
  unfold sizeN
  split
  · rename_i h
    rw [List.length_eq_zero_iff.1 h]
    rfl
  · rename_i h
    have hne : xs ≠ [] := by intro e; rw [e] at h; exact h rfl
    have h1 := List.dropLast_concat_getLast hne
    have h2 : xs.getLast hne ≠ 0 := by
      intro e
      apply hc
      rw [List.getLast?_eq_some_getLast hne, e]
    have h3 := blen_limbs (w := 64) (xs := xs.dropLast) (x := xs.getLast hne) (by rw [← BB_eq]; intro y hy; exact hl y ((List.dropLast_sublist xs).subset hy)) h2
    rw [h1, List.length_dropLast] at h3
    rw [BB_eq, h3, nth, List.getD_eq_getElem?_getD, ← List.getLast?_eq_getElem?, List.getLast?_eq_some_getLast hne]
    rfl

set_option maxHeartbeats 400000 in
theorem size_any (A : Option Addr) (n c : Nat) (xs : List Nat) (w : World) (h : RdN .u64 w A n c xs) (hl : Lim BB xs) (hn : n ≤ 1000000) :
    Calls Tryd.prog 103 #[.slice A n c] w fun e w' => e = .returned (.int .i64 (sizeN xs : Nat)) ∧ w = w' := by
  obtain ⟨hlen, hcap, hmax, hat⟩ := h
  unfold maxLen at hmax
  subst hlen
  by_cases h0 : xs.length = 0
  · have e0 : ((xs.length : Int) == 0) = true := by simp [h0]
    have hres : Hid (sizeN xs = 0) := by unfold sizeN; rw [if_pos h0]; exact hide rfl
    clear h0
    go_enter Tryd.func103, Tryd.ntmps103
    go_wp2
    go_ret
    exact ⟨ret_int (by rw [hres.out]; rfl), rfl⟩
  · obtain ⟨b, off, rfl, hb, hc⟩ := hat (by omega)
    have e0 : ((xs.length : Int) == 0) = false := beq_eq_false_iff_ne.2 (by omega)
    have hcell := hc (xs.length - 1) (by omega)
    have hx : nth xs (xs.length - 1) < BB := hl.getD BB_pos (xs.length - 1)
    have hb64 : blen (nth xs (xs.length - 1)) ≤ 64 := blen_le.2 (by rw [← BB_eq]; exact hx)
    have hres : Hid ((sizeN xs : Int) = 64 * xs.length - (64 - (blen (nth xs (xs.length - 1)) : Int))) := by unfold sizeN Hid; rw [if_neg h0]; omega
    have hp : 1 ≤ xs.length := by omega
    have i0 : ((xs.length : Int) - 1).toNat = xs.length - 1 := by omega
    clear hat hc h0
    go_enter Tryd.func103, Tryd.ntmps103
    go_wp2_with (go_at_call 119; refine (lz_any _ hx _).mono ?_; rintro e w' ⟨rfl, rfl⟩)
    go_ret
    exact ⟨ret_int hres.out.symm, rfl⟩

/-- nat.Zeros. -/
def zerosN (xs : List Nat) : Int := if val BB xs = 0 then -1 else (tz (val BB xs) : Int)
theorem tz_at {xs : List Nat} {k : Nat} (hk : k < xs.length) (h0 : val BB (xs.take k) = 0) (hx : nth xs k ≠ 0) (hl : Lim BB xs) : zerosN xs = ((64 * k + tz (nth xs k) : Nat) : Int) := by
  have h1 := val_take_drop (b := BB) xs k
  rw [Nat.min_eq_left (by omega), h0, val_drop_cons hk, Nat.zero_add] at h1
  have hx' : xs.getD k 0 ≠ 0 := hx
  obtain ⟨m, h2, h3⟩ := tz_spec hx'
  have h4 : tz (xs.getD k 0) < 64 := Nat.lt_of_lt_of_le (tz_lt_blen hx') (blen_le.2 (hl.getD BB_pos k))
  have h5 : xs.getD k 0 + BB * val BB (xs.drop (k + 1)) = 2 ^ tz (xs.getD k 0) * (m + 2 ^ (64 - tz (xs.getD k 0)) * val BB (xs.drop (k + 1))) := by
    rw [Nat.mul_add, ← h2, ← Nat.mul_assoc, ← Nat.pow_add, show tz (xs.getD k 0) + (64 - tz (xs.getD k 0)) = 64 by omega, BB_eq]
  have h6 : (m + 2 ^ (64 - tz (xs.getD k 0)) * val BB (xs.drop (k + 1))) % 2 = 1 := by
    rw [show 64 - tz (xs.getD k 0) = (63 - tz (xs.getD k 0)) + 1 by omega, Nat.pow_succ, Nat.mul_comm (2 ^ _) 2, Nat.mul_assoc, Nat.add_mul_mod_self_left]
    exact h3
  rw [h5, pow_BB, ← Nat.mul_assoc, ← Nat.pow_add] at h1
  have h7 := tz_of h1 h6
  have hne : val BB xs ≠ 0 := by
    rw [h1]
    have := Nat.mul_pos (Nat.two_pow_pos (64 * k + tz (xs.getD k 0))) (show 0 < m + 2 ^ (64 - tz (xs.getD k 0)) * val BB (xs.drop (k + 1)) by omega)
    omega
  unfold zerosN
  rw [if_neg hne, h7]
  rfl

set_option maxHeartbeats 400000 in
theorem zeros_any (A : Option Addr) (n c : Nat) (xs : List Nat) (w : World) (h : RdN .u64 w A n c xs) (hl : Lim BB xs) (hn : n ≤ 1000000) (hT : TabAt w) :
    Calls Tryd.prog 105 #[.slice A n c] w fun e w' => e = .returned (.int .i64 (zerosN xs)) ∧ w = w' := by
  obtain ⟨hlen, hcap, hmax, hat⟩ := h
  unfold maxLen at hmax
  subst hlen
  have HT := hide hT
  clear hT
  go_enter Tryd.func105, Tryd.ntmps105
  go_wp2
  go_loop [7] (fun i => ∃ k : Nat, k ≤ xs.length ∧ i = .int .i64 (k : Int) ∧ Hid (val BB (xs.take k) = 0)) (fun i => xs.length - (intOf i).toNat)
  case atStart => exact ⟨0, Nat.zero_le _, rfl, hide rfl⟩
  case round =>
    obtain ⟨k, hk, rfl, hz⟩ := hrel
    rcases Nat.lt_or_ge k xs.length with hlt | hge
    · obtain ⟨b, off, rfl, hb, hc⟩ := hat (by omega)
      have hcell := hc k hlt
      clear hat hc
      by_cases hx0 : nth xs k = 0
      · have e1 : ((nth xs k : Int) != 0) = false := by simp [hx0]
        have hz2 : Hid (val BB (xs.take (k + 1)) = 0) := by
          unfold Hid
          rw [val_take_getD, hz.out]
          have : xs.getD k 0 = 0 := hx0
          rw [this]; rfl
        clear hz hx0
        go_wp2
        go_round
        case rel => exact ⟨k + 1, by omega, by go_num, hz2⟩
        case measure => simp [intOf]; omega
      · have e1 : ((nth xs k : Int) != 0) = true := by rw [bne_iff_ne]; omega
        have hx : nth xs k < BB := hl.getD BB_pos k
        have h64 : tz (nth xs k) < 64 := Nat.lt_of_lt_of_le (tz_lt_blen hx0) (blen_le.2 (by rw [← BB_eq]; exact hx))
        have hres := hide (tz_at hlt hz.out hx0 hl)
        clear hz
        go_wp2_with (go_at_call 120; refine (tz_any _ hx0 hx _ HT.out).mono ?_; rintro e w' ⟨rfl, rfl⟩)
        go_ret
        exact ⟨ret_int (by rw [hres.out]; omega), rfl⟩
    · have hres : Hid (zerosN xs = -1) := by
        unfold Hid zerosN
        have := hz.out
        rw [List.take_of_length_le hge] at this
        rw [if_pos this]
      go_wp2
      go_ret
      exact ⟨ret_int hres.out.symm, rfl⟩
end Go.Proofs.YtaifjldpjkabjaaDoor
