/- The inner functions of nat over values that read as naturals; small words about them. -/
import Derived.Test.YtaifjldpjkabjaaDoorDyH
import Derived.Test.YtaifjldpjkabjaaDoorNatE
import Derived.Test.YtaifjldpjkabjaaDoorRfB
namespace Go.Proofs.YtaifjldpjkabjaaDoor
open Go.RowKit Pl

theorem mayN_len {xs : List Nat} (h : mayN xs = true) : xs.length ≤ 64 := (mayN_can h).2
theorem cmpL_range (xs ys : List Nat) : cmpL xs ys ≤ 1 ∧ -1 ≤ cmpL xs ys := by
  have key : ∀ k, cmpFrom xs ys k ≤ 1 ∧ -1 ≤ cmpFrom xs ys k := by
    intro k
    induction k with
    | zero => simp [cmpFrom]
    | succ k ih => simp only [cmpFrom]; repeat' split
                   all_goals first | exact ih | omega
  unfold cmpL
  repeat' split
  all_goals first | exact key _ | omega
theorem can_len {xs ys : List Nat} (hl : Lim BB xs) (kl : Lim BB ys) (cy : Cnl ys) (h : val BB ys ≤ val BB xs) : ys.length ≤ xs.length := by
  rw [← limbs_of BB_gt1 kl cy rfl, limbs_len_le BB_gt1]
  exact Nat.lt_of_le_of_lt h (val_lt hl)
theorem may_lt {xs : List Nat} (hl : Lim BB xs) (hm : mayN xs = true) : val BB xs < BB ^ 64 :=
  Nat.lt_of_lt_of_le (val_lt hl) (Nat.pow_le_pow_right BB_pos (mayN_len hm))
theorem BB64 {X k : Nat} (h : k = 4096) : blen X ≤ k ↔ X < BB ^ 64 := by
  have e := @blen_le X (64 * 64)
  rw [pow_BB, h]
  exact e
theorem pow64_ge {k : Nat} (h : 64 * 64 ≤ k) : BB ^ 64 ≤ 2 ^ k := by
  have e := pow_BB 64
  generalize 64 * 64 = q at e h
  rw [e]
  exact Nat.pow_le_pow_right (by omega) h
theorem val_pos_may {xs : List Nat} (hm : mayN xs = true) (hn : xs.length ≠ 0) : val BB xs ≠ 0 := by
  have := val_pos_of_can BB_pos (mayN_can hm).1 (fun h => hn (by rw [h]; rfl))
  omega
theorem zerosN_val {xs : List Nat} (h : val BB xs ≠ 0) : zerosN xs = (tz (val BB xs) : Nat) := by unfold zerosN; rw [if_neg h]
theorem may_limbs {X : Nat} (h : X < BB ^ 64) : mayN (limbs BB X) = true := by
  have h1 := (limbs_len_le BB_gt1 (n := X) (k := 64)).2 h
  have h2 := limbs_can BB_gt1 X
  unfold mayN
  rcases Nat.eq_zero_or_pos (limbs BB X).length with h0 | h0
  · rw [h0]; rfl
  · have h3 : nth (limbs BB X) ((limbs BB X).length - 1) ≠ 0 := by
      intro h4
      refine h2 ?_
      rw [List.getLast?_eq_getElem?]
      unfold nth at h4
      rw [List.getD_eq_getElem?_getD] at h4
      rw [List.getElem?_eq_getElem (by omega)] at h4 ⊢
      simpa using h4
    simp [h1, h3]
/-- A natural among the arguments is its value's. -/
theorem R64.of_may {w : World} {A : Option Addr} {n c : Nat} {xs : List Nat} (h : RdN .u64 w A n c xs) (hl : Lim BB xs) (hm : mayN xs = true) : R64 w (.slice A n c) (val BB xs) :=
  ⟨A, n, c, rfl, by rw [limbs_of BB_gt1 hl (mayN_can hm).1 rfl]; exact h⟩
theorem R64.zero {w : World} {u : Value} (h : R64 w u 0) : ∃ A c, u = .slice A 0 c := by
  obtain ⟨A, n, c, rfl, hr⟩ := h
  have hn : n = 0 := by rw [← hr.len]; rfl
  subst hn
  exact ⟨A, c, rfl⟩
theorem blen_64 {X : Nat} (h : X < BB ^ 64) : blen X ≤ 4096 := (BB64 rfl).2 h
theorem blen_add {X Y a : Nat} (h : blen X ≤ a) (k : blen Y ≤ a) : blen (X + Y) ≤ a + 1 := by
  rw [blen_le] at *
  rw [Nat.pow_succ]
  omega
theorem blen_mul {X Y a b : Nat} (h : blen X ≤ a) (k : blen Y ≤ b) : blen (X * Y) ≤ a + b := by
  rw [blen_le] at *
  rw [Nat.pow_add]
  exact Nat.mul_lt_mul'' h k
theorem pow_big {X k j : Nat} (h : X < BB ^ k) (hk : k ≤ j) : X < BB ^ j := Nat.lt_of_lt_of_le h (Nat.pow_le_pow_right BB_pos hk)
theorem cmpN_lt (X Y : Nat) : X < Y ↔ cmpN X Y < 0 := by
  unfold cmpN
  repeat' split
  all_goals omega
theorem cmpN_rg (X Y : Nat) : -1 ≤ cmpN X Y ∧ cmpN X Y ≤ 1 := by
  unfold cmpN
  repeat' split
  all_goals omega
theorem cmpN_neg (X Y : Nat) : cmpN Y X = - cmpN X Y := by
  unfold cmpN
  repeat' split
  all_goals first | omega | rfl
theorem limb_len {X k : Nat} (h : blen X ≤ 64 * k) : (limbs BB X).length ≤ k := by
  rw [limbs_len_le BB_gt1, pow_BB]
  exact blen_le.1 h
theorem R64.limb {w : World} {u : Value} {X : Nat} (h : R64 w u X) : ∃ A n c, u = .slice A n c ∧ RdN .u64 w A n c (limbs BB X) ∧ (limbs BB X).length = n := by
  obtain ⟨A, n, c, hu, hr⟩ := h
  exact ⟨A, n, c, hu, hr, hr.len⟩
section
variable (u v : Value) (X Y : Nat) (w : World) (h : R64 w u X) (k : R64 w v Y) (hX : blen X ≤ 3000000) (hY : blen Y ≤ 3000000)
include h hX in
theorem leftI (j : Nat) (hj : j ≤ 1000000) : Calls Tryd.prog 112 #[u, .int .i64 (j : Int)] w fun e w' => (∃ z, e = .returned z ∧ R64 w' z (X * 2 ^ j)) ∧ Below w.heap.size w w' := by
  obtain ⟨A, n, c, rfl, hr, hn⟩ := h.limb
  have h1 := left_any A n c _ j w hr (limbs_lim BB_gt1 X) (by have := limb_len (show blen X ≤ 64 * 50000 by omega); omega) hj
  rw [limbs_val BB_gt1] at h1
  exact h1.mono fun e w' ⟨A', n', c', he, hr', hb⟩ => ⟨⟨_, he, _, _, _, rfl, hr'⟩, hb⟩
include h hX in
theorem rightI (j : Nat) (hj : j ≤ 10000000) : Calls Tryd.prog 106 #[u, .int .i64 (j : Int)] w fun e w' => (∃ z, e = .returned z ∧ R64 w' z (X / 2 ^ j)) ∧ Below w.heap.size w w' := by
  obtain ⟨A, n, c, rfl, hr, hn⟩ := h.limb
  have h1 := right_any A n c _ j w hr (limbs_lim BB_gt1 X) (by have := limb_len (show blen X ≤ 64 * 50000 by omega); omega) hj
  rw [limbs_val BB_gt1] at h1
  exact h1.mono fun e w' ⟨A', n', c', he, hr', hb⟩ => ⟨⟨_, he, _, _, _, rfl, hr'⟩, hb⟩
include h k hX hY in
theorem plusI : Calls Tryd.prog 113 #[u, v] w fun e w' => (∃ z, e = .returned z ∧ R64 w' z (X + Y)) ∧ Below w.heap.size w w' := by
  obtain ⟨A, n, c, rfl, hr, hn⟩ := h.limb
  obtain ⟨B, m, d, rfl, kr, km⟩ := k.limb
  have h1 := plus_any A n c _ B m d _ w hr kr (limbs_lim BB_gt1 X) (limbs_lim BB_gt1 Y) (by have := limb_len (show blen X ≤ 64 * 50000 by omega); omega) (by have := limb_len (show blen Y ≤ 64 * 50000 by omega); omega)
  rw [limbs_val BB_gt1, limbs_val BB_gt1] at h1
  exact h1.mono fun e w' ⟨z, he, hr', hb⟩ => ⟨⟨z, he, hr'⟩, hb⟩
include h k hX hY in
theorem timesI : Calls Tryd.prog 84 #[u, v] w fun e w' => (∃ z, e = .returned z ∧ R64 w' z (X * Y)) ∧ Below w.heap.size w w' := by
  obtain ⟨A, n, c, rfl, hr, hn⟩ := h.limb
  obtain ⟨B, m, d, rfl, kr, km⟩ := k.limb
  have h1 := times_any A n c _ B m d _ w hr kr (limbs_lim BB_gt1 X) (limbs_lim BB_gt1 Y) (by have := limb_len (show blen X ≤ 64 * 50000 by omega); omega) (by have := limb_len (show blen Y ≤ 64 * 50000 by omega); omega)
  rw [limbs_val BB_gt1, limbs_val BB_gt1] at h1
  exact h1.mono fun e w' ⟨z, he, hr', hb⟩ => ⟨⟨z, he, hr'⟩, hb⟩
include h k hX in
theorem minusI (hle : Y ≤ X) : Calls Tryd.prog 115 #[u, v] w fun e w' => (∃ z, e = .returned z ∧ R64 w' z (X - Y)) ∧ Below w.heap.size w w' := by
  obtain ⟨A, n, c, rfl, hr, hn⟩ := h.limb
  obtain ⟨B, m, d, rfl, kr, km⟩ := k.limb
  have hlen := can_len (limbs_lim BB_gt1 X) (limbs_lim BB_gt1 Y) (limbs_can BB_gt1 Y) (by rw [limbs_val BB_gt1, limbs_val BB_gt1]; exact hle)
  have h1 := minus_any A n c _ B m d _ w hr kr (limbs_lim BB_gt1 X) (limbs_lim BB_gt1 Y) (by have := limb_len (show blen X ≤ 64 * 50000 by omega); omega) (by omega) (by rw [limbs_val BB_gt1, limbs_val BB_gt1]; exact hle)
  rw [limbs_val BB_gt1, limbs_val BB_gt1] at h1
  exact h1.mono fun e w' ⟨z, he, hr', hb⟩ => ⟨⟨z, he, hr'⟩, hb⟩
include h hX in
theorem sizeI : Calls Tryd.prog 103 #[u] w fun e w' => e = .returned (.int .i64 (blen X : Nat)) ∧ w = w' := by
  obtain ⟨A, n, c, rfl, hr, hn⟩ := h.limb
  have h1 := size_any A n c _ w hr (limbs_lim BB_gt1 X) (by have := limb_len (show blen X ≤ 64 * 50000 by omega); omega)
  rw [sizeN_can (limbs_lim BB_gt1 X) (limbs_can BB_gt1 X), limbs_val BB_gt1] at h1
  exact h1
include h hX in
theorem zerosI (hT : TabAt w) (h0 : X ≠ 0) : Calls Tryd.prog 105 #[u] w fun e w' => e = .returned (.int .i64 (tz X : Nat)) ∧ w = w' := by
  obtain ⟨A, n, c, rfl, hr, hn⟩ := h.limb
  have h1 := zeros_any A n c _ w hr (limbs_lim BB_gt1 X) (by have := limb_len (show blen X ≤ 64 * 50000 by omega); omega) hT
  have h2 : val BB (limbs BB X) = X := limbs_val BB_gt1 X
  rw [zerosN_val (by rw [h2]; exact h0), h2] at h1
  exact h1
include h k in
theorem orderI : Calls Tryd.prog 114 #[u, v] w fun e w' => e = .returned (.int .i64 (cmpN X Y)) ∧ Below w.heap.size w w' := by
  obtain ⟨A, n, c, rfl, hr, hn⟩ := h.limb
  obtain ⟨B, m, d, rfl, kr, km⟩ := k.limb
  have h1 := order_any A n c _ B m d _ w hr kr
  rw [cmpL_limbs BB_gt1] at h1
  exact h1
end
section
variable (u v : Value) (X Y : Nat) (w : World) (h : R64 w u X) (k : R64 w v Y) (hX : X < BB ^ 64) (hY : Y < BB ^ 64)
include h hX in
theorem mayV : Calls Tryd.prog 66 #[u] w fun e w' => e = .returned (.bool true) ∧ w = w' := by
  obtain ⟨A, n, c, rfl, hr⟩ := h
  rw [← may_limbs hX]
  exact may_any A n c _ w hr
include h in
theorem fromV (hX' : X < BB ^ 100) : Calls Tryd.prog 19 #[u] w fun e w' => ∃ z, e = .returned z ∧ R16 w' z X ∧ Below w.heap.size w w' := by
  obtain ⟨A, n, c, rfl, hr⟩ := h
  have h1 := from_any A n c _ w hr (limbs_lim BB_gt1 X) (Nat.le_trans (hr.len_limb hX') (by omega))
  rw [limbs_val BB_gt1] at h1
  exact h1.mono fun e w' ⟨A', n', c', he, hr', hb⟩ => ⟨_, he, ⟨_, _, _, rfl, hr'⟩, hb⟩
include h hX in
theorem rmayV : Calls Tryd.prog 16 #[u] w fun e w' => e = .returned (.bool true) ∧ w = w' := by
  obtain ⟨A, n, c, rfl, hr⟩ := h
  rw [← may_limbs hX]
  exact rmay_any A n c _ w hr
end
theorem cmpN_lt0 {X Y : Nat} (h : X < Y) : cmpN X Y = -1 := by unfold cmpN; rw [if_pos h]
theorem cmpN_gt0 {X Y : Nat} (h : Y < X) : cmpN X Y = 1 := by unfold cmpN; rw [if_neg (by omega), if_pos h]
theorem blen_plus {X Y a : Nat} (h : blen X ≤ a) (k : blen Y ≤ a) : blen (X + Y) ≤ a + 1 := by
  rw [blen_le] at *
  rw [Nat.pow_succ]
  omega
/-- Numbers are told by where they lie. -/
theorem R64.uniq {w : World} {u : Value} {X Y : Nat} (h : R64 w u X) (k : R64 w u Y) : X = Y := by
  obtain ⟨A, n, c, rfl, hr⟩ := h
  obtain ⟨B, m, d, e, kr⟩ := k
  injection e with e1 e2 e3
  subst e1 e2 e3
  refine limbs_inj BB_gt1 (List.ext_getElem (by rw [hr.len, kr.len]) ?_)
  intro i h1 h2
  rw [hr.len] at h1
  obtain ⟨b, off, rfl, _, hc⟩ := hr.at_ (by omega)
  obtain ⟨b2, off2, e, _, kc⟩ := kr.at_ (by omega)
  injection e with e
  injection e with e1 e2
  subst e1 e2
  have h3 := (hc i h1).symm.trans (kc i h1)
  unfold nth at h3
  rw [List.getD_eq_getElem?_getD, List.getD_eq_getElem?_getD, List.getElem?_eq_getElem (by rw [hr.len]; exact h1), List.getElem?_eq_getElem h2] at h3
  simp only [Option.getD_some] at h3
  injection h3 with h3
  injection h3 with _ h3
  exact Int.ofNat_inj.1 h3
theorem eps_R64 {w : World} {u : Value} {X : Nat} (h : R64 w u X) : Classical.epsilon (fun X => R64 w u X) = X :=
  (Classical.epsilon_spec (p := fun X => R64 w u X) ⟨X, h⟩).uniq h
end Go.Proofs.YtaifjldpjkabjaaDoor
