/- Contracts of package nat, part G: the faces. -/
import Derived.Test.YtdnknokhcliikaaDoorNatF
import Derived.Test.YtdnknokhcliikaaDoorInn
namespace Go.Proofs.YtdnknokhcliikaaDoor
open Go.RowKit Pl

theorem cmpL_may {xs ys : List Nat} (hl : Lim BB xs) (kl : Lim BB ys) (hx : mayN xs = true) (hy : mayN ys = true) :
    cmpL xs ys = (if val BB xs < val BB ys then -1 else if val BB ys < val BB xs then 1 else 0) ∧ (val BB ys ≤ val BB xs → ys.length ≤ xs.length) :=
  ⟨cmpL_val BB_gt1 hl kl (mayN_can hx).1 (mayN_can hy).1, can_len hl kl (mayN_can hy).1⟩

set_option maxHeartbeats 400000 in
theorem both_any (A : Option Addr) (n c : Nat) (xs : List Nat) (B : Option Addr) (m d : Nat) (ys : List Nat) (w : World) (h : RdN .u64 w A n c xs) (k : RdN .u64 w B m d ys) :
    Calls Tryd.prog 61 #[.slice A n c, .slice B m d] w fun e w' => e = .returned (.bool (mayN xs && mayN ys)) ∧ w = w' := by
  cases hx : mayN xs <;> cases hy : mayN ys <;>
  · go_enter Tryd.func61, Tryd.ntmps61
    go_wp2_with (go_at_call 35; first | (with_reducible refine (may_any A n c xs _ h).mono ?_; rw [hx]; rintro e w' ⟨rfl, rfl⟩) | (with_reducible refine (may_any B m d ys _ k).mono ?_; rw [hy]; rintro e w' ⟨rfl, rfl⟩))
    go_ret
    exact ⟨rfl, rfl⟩

/-- A natural and its mark, as a face returns them. -/
def Tup (w : World) (x : Ending) (r : Nat × Int) : Prop := ∃ u, x = .returned (.tuple #[u, .int .i64 r.2]) ∧ R64 w u r.1
def capF (X : Nat) : Nat × Int := if X < BB ^ 64 then (X, 0) else (0, 2)
theorem capF_lt {X : Nat} (h : X < BB ^ 64) : capF X = (X, 0) := if_pos h
theorem capF_ge {X : Nat} (h : ¬ X < BB ^ 64) : capF X = (0, 2) := if_neg h

set_option maxHeartbeats 400000 in
theorem capped_any (A : Option Addr) (n c X : Nat) (w : World) (h : RdN .u64 w A n c (limbs BB X)) :
    Calls Tryd.prog 62 #[.slice A n c] w fun e w' => Tup w e (capF X) ∧ w = w' := by
  have hlen := h.len
  have hcap := h.cap
  have hmax := h.max
  unfold maxLen at hmax
  by_cases h1 : X < BB ^ 64
  · have h2 : (limbs BB X).length ≤ 64 := (limbs_len_le BB_gt1).2 h1
    rw [capF_lt h1]
    clear h1
    go_enter Tryd.func62, Tryd.ntmps62
    go_wp2
    go_ret2
    exact ⟨⟨_, rfl, _, _, _, rfl, h⟩, rfl⟩
  · have h2 : ¬ (limbs BB X).length ≤ 64 := fun h2 => h1 ((limbs_len_le BB_gt1).1 h2)
    rw [capF_ge h1]
    clear h1
    go_enter Tryd.func62, Tryd.ntmps62
    go_wp2
    go_ret2
    exact ⟨⟨_, rfl, R64.nil _⟩, rfl⟩

section
variable (A : Option Addr) (n c : Nat) (xs : List Nat) (B : Option Addr) (m d : Nat) (ys : List Nat) (w : World) (h : RdN .u64 w A n c xs) (k : RdN .u64 w B m d ys) (hl : Lim BB xs) (kl : Lim BB ys)

include h k in
set_option maxHeartbeats 400000 in
theorem cmpF_any : Calls Tryd.prog 42 #[.slice A n c, .slice B m d] w fun e w' => e = .returned (.int .i64 (if (mayN xs && mayN ys) = true then cmpL xs ys else 0)) ∧ Below w.heap.size w w' := by
  have hb := fun w h k => both_any A n c xs B m d ys w h k
  cases hm : (mayN xs && mayN ys) <;> simp only [hm] at hb
  · go_enter Tryd.func42, Tryd.ntmps42
    go_wp2_with (go_at_call 61; refine (hb _ h k).mono ?_; rintro e w' ⟨rfl, rfl⟩)
    go_ret
    exact ⟨rfl, Below.refl _ _⟩
  · go_enter Tryd.func42, Tryd.ntmps42
    go_wp2_with (go_at_call 61; refine (hb _ h k).mono ?_; rintro e w' ⟨rfl, rfl⟩)
    refine (order_any A n c xs B m d ys _ h k).mono ?_
    rintro e w1 ⟨rfl, hb1⟩
    go_wp2
    go_ret
    exact ⟨rfl, hb1⟩

include h hl in
set_option maxHeartbeats 400000 in
theorem lenF_any : Calls Tryd.prog 27 #[.slice A n c] w fun e w' => e = .returned (.int .i64 (if mayN xs = true then (sizeN xs : Int) else 0)) ∧ w = w' := by
  have hb := fun w h => may_any A n c xs w h
  have hlen := h.len
  cases hm : mayN xs <;> simp only [hm] at hb
  · go_enter Tryd.func27, Tryd.ntmps27
    go_wp2_with (go_at_call 35; refine (hb _ h).mono ?_; rintro e w' ⟨rfl, rfl⟩)
    go_ret
    exact ⟨rfl, rfl⟩
  · have h64 := mayN_len hm
    go_enter Tryd.func27, Tryd.ntmps27
    go_wp2_with (first | (go_at_call 35; refine (hb _ h).mono ?_; rintro e w' ⟨rfl, rfl⟩) | (go_at_call 53; refine (size_any A n c xs _ h hl (by omega)).mono ?_; rintro e w' ⟨rfl, rfl⟩))
    go_ret
    exact ⟨rfl, rfl⟩

include h hl in
set_option maxHeartbeats 400000 in
theorem lowF_any (hT : TabAt w) : Calls Tryd.prog 28 #[.slice A n c] w fun e w' => e = .returned (.int .i64 (if mayN xs = true then zerosN xs else -1)) ∧ w = w' := by
  have hb := fun w h => may_any A n c xs w h
  have hlen := h.len
  have HT := hide hT
  clear hT
  cases hm : mayN xs <;> simp only [hm] at hb
  · go_enter Tryd.func28, Tryd.ntmps28
    go_wp2_with (go_at_call 35; refine (hb _ h).mono ?_; rintro e w' ⟨rfl, rfl⟩)
    go_ret
    exact ⟨rfl, rfl⟩
  · have h64 := mayN_len hm
    go_enter Tryd.func28, Tryd.ntmps28
    go_wp2_with (first | (go_at_call 35; refine (hb _ h).mono ?_; rintro e w' ⟨rfl, rfl⟩) | (go_at_call 59; refine (zeros_any A n c xs _ h hl (by omega) HT.out).mono ?_; rintro e w' ⟨rfl, rfl⟩))
    go_ret
    exact ⟨rfl, rfl⟩

include h k hl kl in
set_option maxRecDepth 100000 in
set_option maxHeartbeats 1000000 in
theorem addF_any : Calls Tryd.prog 34 #[.slice A n c, .slice B m d] w fun e w' => Tup w' e (if (mayN xs && mayN ys) = true then capF (val BB xs + val BB ys) else (0, 1)) ∧ Below w.heap.size w w' := by
  have hb := fun w h k => both_any A n c xs B m d ys w h k
  have hlen := h.len
  have klen := k.len
  cases hm : (mayN xs && mayN ys) <;> simp only [hm] at hb
  · go_enter Tryd.func34, Tryd.ntmps34
    go_wp2_with (go_at_call 61; refine (hb _ h k).mono ?_; rintro e w' ⟨rfl, rfl⟩)
    go_ret2
    exact ⟨⟨_, rfl, R64.nil _⟩, Below.refl _ _⟩
  · have hm2 := Bool.and_eq_true_iff.1 hm
    have h64 := mayN_len hm2.1
    have k64 := mayN_len hm2.2
    clear hm2
    go_enter Tryd.func34, Tryd.ntmps34
    go_wp2_with (go_at_call 61; refine (hb _ h k).mono ?_; rintro e w' ⟨rfl, rfl⟩)
    refine (plus_any A n c xs B m d ys _ h k hl kl (by omega) (by omega)).mono ?_
    rintro e w1 ⟨v, rfl, ⟨A1, n1, c1, rfl, hr1⟩, hb1⟩
    go_wp2_with fail
    refine (capped_any A1 n1 c1 _ _ hr1).mono ?_
    rintro e w2 ⟨⟨u, rfl, hu⟩, rfl⟩
    go_wp2
    go_ret2
    exact ⟨⟨_, rfl, hu⟩, hb1⟩

include h k hl kl in
set_option maxRecDepth 100000 in
set_option maxHeartbeats 1000000 in
theorem mulF_any : Calls Tryd.prog 36 #[.slice A n c, .slice B m d] w fun e w' => Tup w' e (if (mayN xs && mayN ys) = true then capF (val BB xs * val BB ys) else (0, 1)) ∧ Below w.heap.size w w' := by
  have hb := fun w h k => both_any A n c xs B m d ys w h k
  have hlen := h.len
  have klen := k.len
  cases hm : (mayN xs && mayN ys) <;> simp only [hm] at hb
  · go_enter Tryd.func36, Tryd.ntmps36
    go_wp2_with (go_at_call 61; refine (hb _ h k).mono ?_; rintro e w' ⟨rfl, rfl⟩)
    go_ret2
    exact ⟨⟨_, rfl, R64.nil _⟩, Below.refl _ _⟩
  · have hm2 := Bool.and_eq_true_iff.1 hm
    have h64 := mayN_len hm2.1
    have k64 := mayN_len hm2.2
    clear hm2
    go_enter Tryd.func36, Tryd.ntmps36
    go_wp2_with (go_at_call 61; refine (hb _ h k).mono ?_; rintro e w' ⟨rfl, rfl⟩)
    refine (times_any A n c xs B m d ys _ h k hl kl (by omega) (by omega)).mono ?_
    rintro e w1 ⟨v, rfl, ⟨A1, n1, c1, rfl, hr1⟩, hb1⟩
    go_wp2_with fail
    refine (capped_any A1 n1 c1 _ _ hr1).mono ?_
    rintro e w2 ⟨⟨u, rfl, hu⟩, rfl⟩
    go_wp2
    go_ret2
    exact ⟨⟨_, rfl, hu⟩, hb1⟩

include h k hl kl in
set_option maxRecDepth 100000 in
set_option maxHeartbeats 1000000 in
theorem subF_any : Calls Tryd.prog 41 #[.slice A n c, .slice B m d] w fun e w' => Tup w' e (if (mayN xs && mayN ys) = true ∧ val BB ys ≤ val BB xs then (val BB xs - val BB ys, 0) else (0, 1)) ∧ Below w.heap.size w w' := by
  have hb := fun w h k => both_any A n c xs B m d ys w h k
  have hlen := h.len
  have klen := k.len
  cases hm : (mayN xs && mayN ys) <;> simp only [hm] at hb
  · rw [if_neg (by simp)]
    go_enter Tryd.func41, Tryd.ntmps41
    go_wp2_with (go_at_call 61; refine (hb _ h k).mono ?_; rintro e w' ⟨rfl, rfl⟩)
    go_ret2
    exact ⟨⟨_, rfl, R64.nil _⟩, Below.refl _ _⟩
  · have hm2 := Bool.and_eq_true_iff.1 hm
    have h64 := mayN_len hm2.1
    have k64 := mayN_len hm2.2
    have hcan := cmpL_may hl kl hm2.1 hm2.2
    by_cases hle : val BB ys ≤ val BB xs
    · rw [if_pos ⟨rfl, hle⟩]
      have hord : ¬ cmpL xs ys < 0 := by rw [hcan.1, if_neg (by omega)]; split <;> omega
      have hmn : m ≤ n := by have := hcan.2 hle; omega
      have hc : cmpL xs ys ≤ 1 ∧ -1 ≤ cmpL xs ys := cmpL_range xs ys
      clear hm2 hcan
      obtain ⟨q, hq⟩ : ∃ q, q = cmpL xs ys := ⟨_, rfl⟩
      rw [← hq] at hord hc
      have HQ := hide hq
      clear hq
      have hd : decide (q < 0) = false := by simpa using hord
      go_enter Tryd.func41, Tryd.ntmps41
      go_wp2_with (go_at_call 61; refine (hb _ h k).mono ?_; rintro e w' ⟨rfl, rfl⟩)
      refine (order_any A n c xs B m d ys _ h k).mono ?_
      rw [← HQ.out]
      rintro e w1 ⟨rfl, hb1⟩
      go_wp2_with fail
      refine (minus_any A n c xs B m d ys _ (h.below hb1) (k.below hb1) hl kl (by omega) hmn hle).mono ?_
      rintro e w2 ⟨v, rfl, hv, hb2⟩
      go_wp2
      go_ret2
      exact ⟨⟨_, rfl, hv⟩, below_then hb1 hb2⟩
    · rw [if_neg (fun h => hle h.2)]
      have hord : cmpL xs ys < 0 := by rw [hcan.1, if_pos (by omega)]; omega
      have hc : cmpL xs ys ≤ 1 ∧ -1 ≤ cmpL xs ys := cmpL_range xs ys
      clear hm2 hcan hle
      obtain ⟨q, hq⟩ : ∃ q, q = cmpL xs ys := ⟨_, rfl⟩
      rw [← hq] at hord hc
      have HQ := hide hq
      clear hq
      have hd : decide (q < 0) = true := by simpa using hord
      go_enter Tryd.func41, Tryd.ntmps41
      go_wp2_with (go_at_call 61; refine (hb _ h k).mono ?_; rintro e w' ⟨rfl, rfl⟩)
      refine (order_any A n c xs B m d ys _ h k).mono ?_
      rw [← HQ.out]
      rintro e w1 ⟨rfl, hb1⟩
      go_wp2
      go_ret2
      exact ⟨⟨_, rfl, R64.nil _⟩, hb1⟩

include h hl in
set_option maxRecDepth 100000 in
set_option maxHeartbeats 1000000 in
theorem right_all (j : Int) (hn : n ≤ 100000) (hj0 : 0 ≤ j) (hj : j ≤ 9223372036854775807) :
    Calls Tryd.prog 55 #[.slice A n c, .int .i64 j] w fun e w' => ∃ v, e = .returned v ∧ R64 w' v (val BB xs / 2 ^ j.toNat) ∧ Below w.heap.size w w' := by
  by_cases h7 : j ≤ 10000000
  · refine (right_int A n c xs j w h hl hn hj0 h7).mono ?_
    rintro e w1 ⟨A', n', c', rfl, hr, hb⟩
    exact ⟨_, rfl, ⟨_, _, _, rfl, hr⟩, hb⟩
  · have hlen := h.len
    have hcap := h.cap
    have hmax := h.max
    unfold maxLen at hmax
    obtain ⟨q, rfl⟩ := Int.eq_ofNat_of_zero_le hj0
    have h0 : val BB xs / 2 ^ ((q : Nat) : Int).toNat = 0 := by rw [Int.toNat_natCast]; exact right_none hl (by omega)
    rw [h0]
    clear h0
    have hge : decide ((n : Int) ≤ (q : Int) / 64) = true := decide_eq_true (by omega)
    go_enter Tryd.func55, Tryd.ntmps55
    go_wp2
    go_ret
    exact ⟨_, rfl, R64.nil _, Below.refl _ _⟩

/-- nat.Shl, nat.Shr. -/
def shlR (xs : List Nat) (j : Int) : Nat × Int :=
  if mayN xs = false ∨ j < 0 then (0, 1) else if xs.length = 0 then (0, 0) else if (4096 : Int) - (sizeN xs : Int) < j then (0, 2) else (val BB xs * 2 ^ j.toNat, 0)
def shrR (xs : List Nat) (j : Int) : Nat × Int := if mayN xs = false ∨ j < 0 then (0, 1) else (val BB xs / 2 ^ j.toNat, 0)

include h hl in
set_option maxRecDepth 100000 in
set_option maxHeartbeats 1000000 in
theorem shrF_any (j : Int) (hj1 : -9223372036854775808 ≤ j) (hj : j ≤ 9223372036854775807) : Calls Tryd.prog 21 #[.slice A n c, .int .i64 j] w fun e w' => Tup w' e (shrR xs j) ∧ Below w.heap.size w w' := by
  have hb := fun w h => may_any A n c xs w h
  have hlen := h.len
  unfold shrR
  cases hm : mayN xs <;> simp only [hm] at hb
  · rw [if_pos (.inl rfl)]
    go_enter Tryd.func21, Tryd.ntmps21
    go_wp2_with (go_at_call 35; refine (hb _ h).mono ?_; rintro e w' ⟨rfl, rfl⟩)
    go_ret2
    exact ⟨⟨_, rfl, R64.nil _⟩, Below.refl _ _⟩
  · have h64 := mayN_len hm
    by_cases h0 : j < 0
    · rw [if_pos (.inr h0)]
      go_enter Tryd.func21, Tryd.ntmps21
      go_wp2_with (go_at_call 35; refine (hb _ h).mono ?_; rintro e w' ⟨rfl, rfl⟩)
      go_ret2
      exact ⟨⟨_, rfl, R64.nil _⟩, Below.refl _ _⟩
    · rw [if_neg (by simp [h0])]
      go_enter Tryd.func21, Tryd.ntmps21
      go_wp2_with (go_at_call 35; refine (hb _ h).mono ?_; rintro e w' ⟨rfl, rfl⟩)
      refine (right_all A n c xs _ h hl j (by omega) (by omega) hj).mono ?_
      rintro e w1 ⟨v, rfl, hv, hb1⟩
      go_wp2
      go_ret2
      exact ⟨⟨_, rfl, hv⟩, hb1⟩

include h hl in
set_option maxRecDepth 100000 in
set_option maxHeartbeats 1000000 in
theorem shlF_any (j : Int) (hj1 : -9223372036854775808 ≤ j) (hj : j ≤ 9223372036854775807) : Calls Tryd.prog 20 #[.slice A n c, .int .i64 j] w fun e w' => Tup w' e (shlR xs j) ∧ Below w.heap.size w w' := by
  have hb := fun w h => may_any A n c xs w h
  have hlen := h.len
  have hcap := h.cap
  have hmax := h.max
  unfold maxLen at hmax
  unfold shlR
  cases hm : mayN xs <;> simp only [hm] at hb
  · rw [if_pos (.inl rfl)]
    go_enter Tryd.func20, Tryd.ntmps20
    go_wp2_with (go_at_call 35; refine (hb _ h).mono ?_; rintro e w' ⟨rfl, rfl⟩)
    go_ret2
    exact ⟨⟨_, rfl, R64.nil _⟩, Below.refl _ _⟩
  · have h64 := mayN_len hm
    by_cases h0 : j < 0
    · rw [if_pos (.inr h0)]
      go_enter Tryd.func20, Tryd.ntmps20
      go_wp2_with (go_at_call 35; refine (hb _ h).mono ?_; rintro e w' ⟨rfl, rfl⟩)
      go_ret2
      exact ⟨⟨_, rfl, R64.nil _⟩, Below.refl _ _⟩
    · rw [if_neg (by simp [h0])]
      by_cases hz : xs.length = 0
      · rw [if_pos hz]
        have e0 : ((n : Int) == 0) = true := by rw [beq_iff_eq]; omega
        go_enter Tryd.func20, Tryd.ntmps20
        go_wp2_with (go_at_call 35; refine (hb _ h).mono ?_; rintro e w' ⟨rfl, rfl⟩)
        go_ret2
        exact ⟨⟨_, rfl, R64.nil _⟩, Below.refl _ _⟩
      · rw [if_neg hz]
        have e0 : ((n : Int) == 0) = false := by rw [beq_eq_false_iff_ne]; omega
        have hs := sizeN_le h64 hl
        have hS := fun w h => size_any A n c xs w h hl (by omega)
        obtain ⟨s, hs'⟩ : ∃ s, s = sizeN xs := ⟨_, rfl⟩
        rw [← hs'] at hs hS ⊢
        clear hs'
        by_cases hf : (4096 : Int) - (s : Int) < j
        · rw [if_pos hf]
          have hd : decide ((4096 : Int) - (s : Int) < j) = true := by simpa using hf
          go_enter Tryd.func20, Tryd.ntmps20
          go_wp2_with (first | (go_at_call 35; refine (hb _ h).mono ?_; rintro e w' ⟨rfl, rfl⟩) | (go_at_call 53; refine (hS _ h).mono ?_; rintro e w' ⟨rfl, rfl⟩))
          go_ret2
          exact ⟨⟨_, rfl, R64.nil _⟩, Below.refl _ _⟩
        · rw [if_neg hf]
          have hd : decide ((4096 : Int) - (s : Int) < j) = false := by simpa using hf
          go_enter Tryd.func20, Tryd.ntmps20
          go_wp2_with (first | (go_at_call 35; refine (hb _ h).mono ?_; rintro e w' ⟨rfl, rfl⟩) | (go_at_call 53; refine (hS _ h).mono ?_; rintro e w' ⟨rfl, rfl⟩))
          refine (left_int A n c xs j _ h hl (by omega) (by omega) (by omega)).mono ?_
          rintro e w1 ⟨A', n', c', rfl, hr, hb1⟩
          go_wp2
          go_ret2
          exact ⟨⟨_, rfl, _, _, _, rfl, hr⟩, hb1⟩
end
end Go.Proofs.YtdnknokhcliikaaDoor
