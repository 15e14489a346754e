/- sluicewaylaw1: Few, Same, is, told. -/
import Derived.Test.YtdnknokhcliikaaDoorNatH
import Derived.Test.YtdnknokhcliikaaDoorRfH
namespace Go.Proofs.YtdnknokhcliikaaDoor
open Go.RowKit Pl

set_option maxHeartbeats 400000 in
theorem few_any (A : Option Addr) (n c : Nat) (xs : List Nat) (w : World) (h : RdN .u64 w A n c xs) :
    Calls Tryd.prog 18 #[.slice A n c] w fun e w' => e = .returned (.bool (decide ((n : Int) ≤ 70))) ∧ w = w' := by
  have hcap := h.cap
  have hmax := h.max
  unfold maxLen at hmax
  go_enter Tryd.func18, Tryd.ntmps18
  go_wp2
  go_ret
  exact ⟨rfl, rfl⟩

set_option maxHeartbeats 1000000 in
theorem same_true (A : Option Addr) (n c : Nat) (xs : List Nat) (B : Option Addr) (m d : Nat) (w : World) (h : RdN .u64 w A n c xs) (k : RdN .u64 w B m d xs) :
    Calls Tryd.prog 24 #[.slice A n c, .slice B m d] w fun e w' => e = .returned (.bool true) ∧ Below w.heap.size w w' := by
  obtain ⟨hlen, hcap, hmax, hat⟩ := h
  obtain ⟨klen, kcap, kmax, kat⟩ := k
  unfold maxLen at hmax kmax
  subst hlen klen
  go_enter Tryd.func24, Tryd.ntmps24
  go_wp2
  go_loopw [5] (fun i wr => ∃ q : Nat, q ≤ xs.length ∧ i = .int .i64 (q : Int) ∧ Below w.heap.size w wr) (fun i _ => xs.length - (intOf i).toNat)
  case atStart => exact ⟨0, Nat.zero_le _, rfl, Below.refl _ _⟩
  case round =>
    obtain ⟨q, hq, rfl, hbw⟩ := hrel
    rcases Nat.lt_or_ge q xs.length with hlt | hge
    · obtain ⟨b, off, rfl, hb, hc⟩ := hat (by omega)
      obtain ⟨b2, off2, rfl, hb2, hc2⟩ := kat (by omega)
      have hcell := RdN.cellW hc hb hbw q hlt
      have hcell2 := RdN.cellW hc2 hb2 hbw q hlt
      have i1 : (0 : Int) ≤ (q : Int) := by omega
      have i2 : (q : Int) < (xs.length : Int) := by omega
      clear hat kat hc hc2
      go_wp2_with fail
      go_quiet (fail)
      have hb3 := below_drewN hbw nq
      go_wp2
      go_roundw
      case rel => exact ⟨q + 1, by omega, by go_num, hb3⟩
      case measure => simp [intOf]; omega
    · obtain rfl : q = xs.length := by omega
      clear hat kat
      go_wp2
      go_ret
      exact ⟨rfl, hbw⟩
theorem same_R (u v : Value) (X : Nat) (w : World) (h : R64 w u X) (k : R64 w v X) :
    Calls Tryd.prog 24 #[u, v] w fun e w' => e = .returned (.bool true) ∧ Below w.heap.size w w' := by
  obtain ⟨A, n, c, rfl, hr⟩ := h
  obtain ⟨B, m, d, rfl, kr⟩ := k
  exact same_true A n c _ B m d w hr kr

set_option maxRecDepth 100000 in
set_option maxHeartbeats 1000000 in
/-- A face's answer is the document's, if it is the number that stands there, or none for it is too long. -/
theorem is_any (u v : Value) (X : Nat) (w : World) (h : R64 w u (capF X).1) (k : R16 w v X) (hX : blen X ≤ 1000000) :
    Calls Tryd.prog 31 #[u, .int .i64 (capF X).2, v] w fun e w' => e = .returned (.bool true) ∧ Below w.heap.size w w' := by
  obtain ⟨B, m, d, rfl, kr⟩ := k
  have hm := dig_len kr hX
  by_cases hc : X < BB ^ 64
  · rw [capF_lt hc] at h ⊢
    simp only at h ⊢
    have h64 : (limbs BB X).length ≤ 64 := (limbs_len_le BB_gt1).2 hc
    clear hc
    go_enter Tryd.func31, Tryd.ntmps31
    go_wp2_with fail
    refine (limbs_any B m d X _ kr (by omega)).mono ?_
    rintro e w1 ⟨z, rfl, hz, hb1⟩
    have hz' := hz
    obtain ⟨C, n1, c1, rfl, hzr⟩ := hz
    have hn1 := hzr.len
    have hcap := hzr.cap
    have hmax := hzr.max
    unfold maxLen at hmax
    have h1 := h.below hb1
    go_wp2_with fail
    refine (same_R _ _ X _ h1 hz').mono ?_
    rintro e w2 ⟨rfl, hb2⟩
    go_wp2
    go_ret
    exact ⟨rfl, below_then hb1 hb2⟩
  · rw [capF_ge hc] at h ⊢
    simp only at h ⊢
    have h64 : ¬ (limbs BB X).length ≤ 64 := fun h => hc ((limbs_len_le BB_gt1).1 h)
    clear hc
    obtain ⟨A, n, c, rfl, hr⟩ := h
    have hn : n = 0 := by rw [← hr.len]; rfl
    subst hn
    go_enter Tryd.func31, Tryd.ntmps31
    go_wp2_with fail
    refine (limbs_any B m d X _ kr (by omega)).mono ?_
    rintro e w1 ⟨z, rfl, hz, hb1⟩
    obtain ⟨C, n1, c1, rfl, hzr⟩ := hz
    have hn1 := hzr.len
    have hcap := hzr.cap
    have hmax := hzr.max
    unfold maxLen at hmax
    go_wp2
    go_ret
    exact ⟨rfl, hb1⟩
end Go.Proofs.YtdnknokhcliikaaDoor
