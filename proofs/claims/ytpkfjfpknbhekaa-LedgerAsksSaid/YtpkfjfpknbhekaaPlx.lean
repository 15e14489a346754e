/- Plain arithmetic of digits: numbers as lists of digits to a base; sums, differences, products, quotients, shifts, roots, round by round. No program in sight. -/
namespace Go.Proofs.Ytpkfjfpknbhekaa.Pl
/-- 2^64; 2^16: behind plain names. -/
def BB : Nat := 18446744073709551616
def DD : Nat := 65536
theorem BB_eq : BB = 2 ^ 64 := rfl
theorem DD_eq : DD = 2 ^ 16 := rfl
theorem BB_gt1 : 1 < BB := by unfold BB; omega
theorem DD_gt1 : 1 < DD := by unfold DD; omega
theorem BB_pos : 0 < BB := by unfold BB; omega
theorem DD_pos : 0 < DD := by unfold DD; omega

/-- The number that digits are to a base, the least first. -/
def val (b : Nat) : List Nat → Nat
  | [] => 0
  | x :: xs => x + b * val b xs
/-- Digits are below the base. -/
def Lim (b : Nat) (xs : List Nat) : Prop := ∀ x ∈ xs, x < b
/-- The last digit is not nought. -/
def Cnl (xs : List Nat) : Prop := xs.getLast? ≠ some 0
/-- No noughts at the end. -/
def trimL : List Nat → List Nat
  | [] => []
  | x :: xs => match trimL xs with
    | [] => if x = 0 then [] else [x]
    | y :: ys => x :: y :: ys

section
variable {b : Nat}
@[simp] theorem val_nil : val b [] = 0 := rfl
@[simp] theorem val_cons (x : Nat) (xs : List Nat) : val b (x :: xs) = x + b * val b xs := rfl
theorem Lim.nil : Lim b [] := by intro x hx; cases hx
theorem Lim.cons {x : Nat} {xs : List Nat} (h : x < b) (hs : Lim b xs) : Lim b (x :: xs) := by
  intro y hy; rcases List.mem_cons.1 hy with rfl | hy
  · exact h
  · exact hs y hy
theorem Lim.head {x : Nat} {xs : List Nat} (h : Lim b (x :: xs)) : x < b := h x (by simp)
theorem Lim.tail {x : Nat} {xs : List Nat} (h : Lim b (x :: xs)) : Lim b xs := fun y hy => h y (by simp [hy])
theorem Lim.append {xs ys : List Nat} (h : Lim b xs) (k : Lim b ys) : Lim b (xs ++ ys) := by
  intro y hy; rcases List.mem_append.1 hy with hy | hy
  · exact h y hy
  · exact k y hy
theorem Lim.take {xs : List Nat} (h : Lim b xs) (n : Nat) : Lim b (xs.take n) := fun y hy => h y (List.mem_of_mem_take hy)
theorem Lim.drop {xs : List Nat} (h : Lim b xs) (n : Nat) : Lim b (xs.drop n) := fun y hy => h y (List.mem_of_mem_drop hy)
theorem Lim.right {xs ys : List Nat} (h : Lim b (xs ++ ys)) : Lim b ys := fun y hy => h y (by simp [hy])
theorem Lim.zeros (hb : 0 < b) (n : Nat) : Lim b (List.replicate n 0) := by
  intro y hy; rw [List.eq_of_mem_replicate hy]; exact hb
theorem Lim.set {xs : List Nat} (h : Lim b xs) (i x : Nat) (hx : x < b) : Lim b (xs.set i x) := by
  intro y hy; rcases List.mem_or_eq_of_mem_set hy with hy | rfl
  · exact h y hy
  · exact hx
theorem Lim.getD {xs : List Nat} (hb : 0 < b) (h : Lim b xs) (i : Nat) : xs.getD i 0 < b := by
  rw [List.getD_eq_getElem?_getD]
  cases he : xs[i]? with
  | none => exact hb
  | some v => exact h v (List.mem_of_getElem? he)

theorem val_append (xs ys : List Nat) : val b (xs ++ ys) = val b xs + b ^ xs.length * val b ys := by
  induction xs with
  | nil => simp
  | cons x xs ih =>
    simp only [List.cons_append, val_cons, ih, List.length_cons, Nat.pow_succ]
    rw [Nat.mul_add, Nat.add_assoc]
    congr 2
    rw [← Nat.mul_assoc, Nat.mul_comm b]
theorem val_zeros (n : Nat) : val b (List.replicate n 0) = 0 := by
  induction n with
  | zero => rfl
  | succ n ih => simp [List.replicate_succ, ih]
theorem val_lt {xs : List Nat} (h : Lim b xs) : val b xs < b ^ xs.length := by
  induction xs with
  | nil => simp
  | cons x xs ih =>
    have h1 := ih h.tail
    have h2 := h.head
    simp only [val_cons, List.length_cons, Nat.pow_succ]
    calc x + b * val b xs < b + b * val b xs := by omega
      _ = b * (val b xs + 1) := by rw [Nat.mul_add, Nat.mul_one, Nat.add_comm]
      _ ≤ b * b ^ xs.length := Nat.mul_le_mul_left _ h1
      _ = _ := Nat.mul_comm _ _
theorem val_take_drop (xs : List Nat) (n : Nat) : val b xs = val b (xs.take n) + b ^ (min n xs.length) * val b (xs.drop n) := by
  conv => lhs; rw [← List.take_append_drop n xs]
  rw [val_append, List.length_take]
theorem val_take_succ (xs : List Nat) (k : Nat) (h : k < xs.length) : val b (xs.take (k + 1)) = val b (xs.take k) + b ^ k * xs.getD k 0 := by
  rw [List.take_succ_eq_append_getElem h, val_append, List.length_take, Nat.min_eq_left (by omega)]
  simp [List.getD_eq_getElem?_getD, h]

theorem trimL_val (xs : List Nat) : val b (trimL xs) = val b xs := by
  induction xs with
  | nil => rfl
  | cons x xs ih =>
    simp only [trimL, val_cons]
    split
    · rename_i h
      rw [h] at ih
      simp only [val_nil] at ih
      rw [← ih]
      split
      · rename_i h0; rw [h0]; rfl
      · rfl
    · rename_i y ys h
      rw [h] at ih
      rw [val_cons, ih]
theorem trimL_can (xs : List Nat) : Cnl (trimL xs) := by
  induction xs with
  | nil => simp [trimL, Cnl]
  | cons x xs ih =>
    simp only [trimL]
    split
    · rename_i h
      split
      · simp [Cnl]
      · simpa [Cnl] using by assumption
    · rename_i y ys h
      rw [h] at ih
      unfold Cnl at ih ⊢
      rw [List.getLast?_cons_cons]
      exact ih
theorem trimL_lim {xs : List Nat} (h : Lim b xs) : Lim b (trimL xs) := by
  induction xs with
  | nil => exact h
  | cons x xs ih =>
    simp only [trimL]
    split
    · split
      · exact Lim.nil
      · exact Lim.cons h.head Lim.nil
    · rename_i y ys he
      have := ih h.tail
      rw [he] at this
      exact Lim.cons h.head this
theorem trimL_of_can {xs : List Nat} (h : Cnl xs) : trimL xs = xs := by
  induction xs with
  | nil => rfl
  | cons x xs ih =>
    simp only [trimL]
    cases xs with
    | nil =>
      have : x ≠ 0 := by simpa [Cnl] using h
      simp [trimL, this]
    | cons y ys =>
      have : Cnl (y :: ys) := by
        unfold Cnl at h ⊢
        rwa [List.getLast?_cons_cons] at h
      rw [ih this]
theorem trimL_snoc_zero (xs : List Nat) : trimL (xs ++ [0]) = trimL xs := by
  induction xs with
  | nil => rfl
  | cons x xs ih => simp only [List.cons_append, trimL, ih]
theorem trimL_take (xs : List Nat) : trimL xs = xs.take (trimL xs).length := by
  induction xs with
  | nil => rfl
  | cons x xs ih =>
    simp only [trimL]
    split
    · split <;> simp
    · rename_i y ys h
      rw [h] at ih
      simp only [List.length_cons, List.take_succ_cons]
      rw [← List.length_cons (a := y), ← ih]
theorem trimL_len (xs : List Nat) : (trimL xs).length ≤ xs.length := by
  have h := congrArg List.length (trimL_take xs)
  rw [List.length_take] at h
  omega
theorem Cnl.tail {x : Nat} {xs : List Nat} (h : Cnl (x :: xs)) : Cnl xs := by
  cases xs with
  | nil => simp [Cnl]
  | cons y ys => unfold Cnl at h ⊢; rwa [List.getLast?_cons_cons] at h
theorem val_pos_of_can (hb : 0 < b) {xs : List Nat} (h : Cnl xs) (hn : xs ≠ []) : 0 < val b xs := by
  induction xs with
  | nil => exact absurd rfl hn
  | cons x xs ih =>
    cases xs with
    | nil =>
      have : x ≠ 0 := by simpa [Cnl] using h
      simp; omega
    | cons y ys =>
      have := ih h.tail (by simp)
      rw [val_cons]
      have := Nat.mul_pos hb this
      omega
/-- One number, one list. -/
theorem val_inj (hb : 0 < b) {xs ys : List Nat} (hx : Lim b xs) (hy : Lim b ys) (cx : Cnl xs) (cy : Cnl ys) (h : val b xs = val b ys) : xs = ys := by
  induction xs generalizing ys with
  | nil =>
    cases ys with
    | nil => rfl
    | cons y ys => have := val_pos_of_can hb cy (by simp); simp only [val_nil] at h; omega
  | cons x xs ih =>
    cases ys with
    | nil => have := val_pos_of_can hb cx (by simp); simp only [val_nil] at h; omega
    | cons y ys =>
      simp only [val_cons] at h
      have h1 : x = y := by
        have := congrArg (· % b) h
        simp only [Nat.add_mul_mod_self_left] at this
        rwa [Nat.mod_eq_of_lt hx.head, Nat.mod_eq_of_lt hy.head] at this
      subst h1
      have h2 : val b xs = val b ys := Nat.eq_of_mul_eq_mul_left hb (Nat.add_left_cancel h)
      rw [ih hx.tail hy.tail cx.tail cy.tail h2]
end

/-- The digits of a number. -/
def limbsF (b : Nat) : Nat → Nat → List Nat
  | 0, _ => []
  | f + 1, n => if n = 0 then [] else n % b :: limbsF b f (n / b)
def limbs (b n : Nat) : List Nat := limbsF b n n
section
variable {b : Nat} (hb : 1 < b)
include hb
theorem limbsF_val (f n : Nat) (h : n ≤ f) : val b (limbsF b f n) = n := by
  induction f generalizing n with
  | zero => simp [limbsF]; omega
  | succ f ih =>
    simp only [limbsF]
    split
    · simp_all
    · rw [val_cons, ih _ (by have := Nat.div_lt_self (n := n) (k := b) (by omega) hb; omega)]
      exact Nat.mod_add_div n b
theorem limbsF_lim (f n : Nat) : Lim b (limbsF b f n) := by
  induction f generalizing n with
  | zero => exact Lim.nil
  | succ f ih =>
    simp only [limbsF]
    split
    · exact Lim.nil
    · exact Lim.cons (Nat.mod_lt _ (by omega)) (ih _)
theorem limbsF_can (f n : Nat) (h : n ≤ f) : Cnl (limbsF b f n) := by
  induction f generalizing n with
  | zero => simp [limbsF, Cnl]
  | succ f ih =>
    simp only [limbsF]
    split
    · simp [Cnl]
    · rename_i hn
      have hd : n / b ≤ f := by have := Nat.div_lt_self (n := n) (k := b) (by omega) hb; omega
      cases hl : limbsF b f (n / b) with
      | nil =>
        have hv := limbsF_val hb f _ hd
        rw [hl] at hv
        simp only [val_nil] at hv
        have := Nat.mod_add_div n b
        rw [← hv] at this
        simp [Cnl]; omega
      | cons y ys =>
        have := ih _ hd
        rw [hl] at this
        unfold Cnl at this ⊢
        rwa [List.getLast?_cons_cons]
theorem limbs_val (n : Nat) : val b (limbs b n) = n := limbsF_val hb n n (Nat.le_refl _)
theorem limbs_lim (n : Nat) : Lim b (limbs b n) := limbsF_lim hb n n
theorem limbs_can (n : Nat) : Cnl (limbs b n) := limbsF_can hb n n (Nat.le_refl _)
theorem limbs_of {xs : List Nat} {n : Nat} (h : Lim b xs) (c : Cnl xs) (hv : val b xs = n) : limbs b n = xs :=
  val_inj (by omega) (limbs_lim hb n) h (limbs_can hb n) c ((limbs_val hb n).trans hv.symm)
theorem trimL_limbs {xs : List Nat} (h : Lim b xs) : trimL xs = limbs b (val b xs) :=
  (limbs_of hb (trimL_lim h) (trimL_can xs) (trimL_val xs)).symm
theorem limbs_eq_nil {n : Nat} : limbs b n = [] ↔ n = 0 :=
  ⟨fun h => by rw [← limbs_val hb n, h]; rfl, fun h => by rw [h]; rfl⟩
/-- How long: as many digits as the powers of the base tell. -/
theorem limbs_len_le {n k : Nat} : (limbs b n).length ≤ k ↔ n < b ^ k := by
  constructor
  · intro h
    have := val_lt (limbs_lim hb n)
    rw [limbs_val hb] at this
    exact Nat.lt_of_lt_of_le this (Nat.pow_le_pow_right (by omega) h)
  · intro h
    rcases Nat.lt_or_ge k (limbs b n).length with hk | hk
    · exfalso
      have hne : limbs b n ≠ [] := by intro he; rw [he] at hk; simp at hk
      have hc := limbs_can hb n
      have h1 := val_take_drop (b := b) (limbs b n) ((limbs b n).length - 1)
      rw [limbs_val hb, Nat.min_eq_left (by omega)] at h1
      have hd : Cnl ((limbs b n).drop ((limbs b n).length - 1)) := by
        unfold Cnl at hc ⊢
        rw [List.getLast?_drop]
        rw [if_neg (by omega)]
        exact hc
      have hp := val_pos_of_can (b := b) (by omega) hd (by
        intro he
        have := congrArg List.length he
        simp at this; omega)
      have : b ^ ((limbs b n).length - 1) ≤ n := by
        calc b ^ ((limbs b n).length - 1) = b ^ ((limbs b n).length - 1) * 1 := by omega
          _ ≤ b ^ ((limbs b n).length - 1) * val b ((limbs b n).drop ((limbs b n).length - 1)) := Nat.mul_le_mul_left _ hp
          _ ≤ n := by omega
      have : b ^ k ≤ b ^ ((limbs b n).length - 1) := Nat.pow_le_pow_right (by omega) (by omega)
      omega
    · exact hk
end
/-- How many bits a number has. -/
def blen (n : Nat) : Nat := if n = 0 then 0 else n.log2 + 1
theorem blen_le {n k : Nat} : blen n ≤ k ↔ n < 2 ^ k := by
  unfold blen
  split
  · rename_i h; subst h; simp [Nat.two_pow_pos]
  · rename_i h
    rw [← Nat.log2_lt h]
    omega
theorem lt_blen {n k : Nat} : k < blen n ↔ 2 ^ k ≤ n := by
  have := @blen_le n k
  omega
theorem blen_pos {n : Nat} : 0 < blen n ↔ n ≠ 0 := by
  rw [lt_blen]; omega
theorem blen_lt_pow (n : Nat) : n < 2 ^ blen n := blen_le.1 (Nat.le_refl _)
theorem pow_le_blen {n : Nat} (h : n ≠ 0) : 2 ^ (blen n - 1) ≤ n := by
  have := blen_pos.2 h
  exact lt_blen.1 (by omega)
theorem blen_eq {n k : Nat} (h1 : 2 ^ k ≤ n) (h2 : n < 2 ^ (k + 1)) : blen n = k + 1 := by
  have := blen_le.2 h2
  have := lt_blen.2 h1
  omega
/-- A low part does not count. -/
theorem blen_add_mul {x y k : Nat} (hy : y ≠ 0) (hx : x < 2 ^ k) : blen (x + 2 ^ k * y) = k + blen y := by
  have h1 := pow_le_blen hy
  have h2 := blen_lt_pow y
  have h3 := blen_pos.2 hy
  have e : k + blen y = (k + (blen y - 1)) + 1 := by omega
  rw [e]
  refine blen_eq ?_ ?_
  · rw [Nat.pow_add]
    exact Nat.le_trans (Nat.mul_le_mul_left _ h1) (Nat.le_add_left _ _)
  · rw [show k + (blen y - 1) + 1 = k + blen y by omega, Nat.pow_add]
    calc x + 2 ^ k * y < 2 ^ k + 2 ^ k * y := by omega
      _ = 2 ^ k * (y + 1) := by rw [Nat.mul_add, Nat.mul_one, Nat.add_comm]
      _ ≤ 2 ^ k * 2 ^ blen y := Nat.mul_le_mul_left _ h2
theorem blen_limbs {w : Nat} {xs : List Nat} {x : Nat} (h : Lim (2 ^ w) xs) (hx : x ≠ 0) : blen (val (2 ^ w) (xs ++ [x])) = w * xs.length + blen x := by
  rw [val_append, ← Nat.pow_mul]
  have := val_lt h
  rw [← Nat.pow_mul] at this
  simp only [val_cons, val_nil, Nat.mul_zero, Nat.add_zero]
  exact blen_add_mul hx this

/-! ### One digit of a quotient (all over a base b) -/
section
variable {b : Nat}
end

/-! ### Newton's root -/
/-- The root of a natural. -/
def sqr (a : Nat) : Nat → Nat
  | 0 => 0
  | k + 1 => if (k + 1) * (k + 1) ≤ a then k + 1 else sqr a k
def nroot (a : Nat) : Nat := sqr a a
theorem sqr_spec (a k : Nat) (h : a < (k + 1) * (k + 1)) : sqr a k * sqr a k ≤ a ∧ a < (sqr a k + 1) * (sqr a k + 1) := by
  induction k with
  | zero => simp [sqr] at h ⊢; omega
  | succ k ih =>
    simp only [sqr]
    split
    · exact ⟨by assumption, h⟩
    · exact ih (by omega)
theorem nroot_spec (a : Nat) : nroot a * nroot a ≤ a ∧ a < (nroot a + 1) * (nroot a + 1) := by
  refine sqr_spec a a ?_
  have : a * 1 ≤ a * (a + 1) := Nat.mul_le_mul_left _ (by omega)
  rw [Nat.add_mul]
  omega
theorem nroot_of {a s : Nat} (h1 : s * s ≤ a) (h2 : a < (s + 1) * (s + 1)) : nroot a = s := by
  obtain ⟨k1, k2⟩ := nroot_spec a
  have sq : ∀ {m n : Nat}, m * m < (n + 1) * (n + 1) → m ≤ n := by
    intro m n h
    rcases Nat.lt_or_ge n m with hlt | hge
    · have := Nat.mul_le_mul hlt hlt
      simp only [Nat.succ_eq_add_one] at this
      omega
    · exact hge
  have := sq (Nat.lt_of_le_of_lt k1 h2)
  have := sq (Nat.lt_of_le_of_lt h1 k2)
  omega
/-! ### Lists: one place set -/
section
variable {b : Nat}
theorem val_set {xs : List Nat} {k : Nat} (h : k < xs.length) (v : Nat) : val b (xs.set k v) + b ^ k * xs.getD k 0 = val b xs + b ^ k * v := by
  induction xs generalizing k with
  | nil => simp at h
  | cons x xs ih =>
    cases k with
    | zero => simp; omega
    | succ k =>
      have h1 := ih (k := k) (by simpa using h)
      have h2 : b * (val b (xs.set k v) + b ^ k * xs.getD k 0) = b * (val b xs + b ^ k * v) := by rw [h1]
      rw [Nat.mul_add, Nat.mul_add, ← Nat.mul_assoc, ← Nat.mul_assoc, Nat.mul_comm b (b ^ k), ← Nat.pow_succ] at h2
      simp only [Nat.succ_eq_add_one] at h2
      simp only [List.set_cons_succ, val_cons, List.getD_cons_succ]
      omega
theorem take_set_self {xs : List Nat} {k : Nat} (h : k < xs.length) (v : Nat) : (xs.set k v).take (k + 1) = xs.take k ++ [v] := by
  rw [List.take_succ_eq_append_getElem (by simpa using h), List.take_set_of_le (Nat.le_refl _)]
  simp
theorem drop_set_succ (xs : List Nat) (k v : Nat) : (xs.set k v).drop (k + 1) = xs.drop (k + 1) := by
  rw [List.drop_set_of_lt (by omega)]
theorem getD_set_self {xs : List Nat} {k : Nat} (h : k < xs.length) (v : Nat) : (xs.set k v).getD k 0 = v := by
  simp [List.getD_eq_getElem?_getD, h]
theorem getD_set_ne {xs : List Nat} {k i : Nat} (h : k ≠ i) (v : Nat) : (xs.set k v).getD i 0 = xs.getD i 0 := by
  simp [List.getD_eq_getElem?_getD, List.getElem?_set_ne h]
theorem getD_of_drop {xs ys : List Nat} {k : Nat} (h : xs.drop k = ys.drop k) : xs.getD k 0 = ys.getD k 0 := by
  have h1 := congrArg (fun l => l.getD 0 0) h
  simpa [List.getD_eq_getElem?_getD] using h1
theorem drop_succ_of_drop {xs ys : List Nat} {k : Nat} (h : xs.drop k = ys.drop k) : xs.drop (k + 1) = ys.drop (k + 1) := by
  rw [← List.drop_drop, ← List.drop_drop, h]
theorem val_drop_cons {xs : List Nat} {k : Nat} (h : k < xs.length) : val b (xs.drop k) = xs.getD k 0 + b * val b (xs.drop (k + 1)) := by
  rw [List.drop_eq_getElem_cons h, val_cons]
  simp [List.getD_eq_getElem?_getD, h]
theorem mul_mod_div (p s : Nat) : p * (s % b) + p * b * (s / b) = p * s := by
  have := Nat.mod_add_div s b
  calc p * (s % b) + p * b * (s / b) = p * (s % b + b * (s / b)) := by rw [Nat.mul_add, Nat.mul_assoc]
    _ = p * s := by rw [this]

/-! ### The sum, round by round -/
structure PlusInv (b : Nat) (a bs o : List Nat) (c k : Nat) : Prop where
  len : o.length = a.length
  lim : Lim b o
  car : c ≤ 1
  sum : val b (o.take k) + b ^ k * c = val b (a.take k) + val b (bs.take k)
  rest : o.drop k = a.drop k
theorem val_take_getD (xs : List Nat) (k : Nat) : val b (xs.take (k + 1)) = val b (xs.take k) + b ^ k * xs.getD k 0 := by
  rcases Nat.lt_or_ge k xs.length with h | h
  · exact val_take_succ xs k h
  · rw [List.take_of_length_le (by omega), List.take_of_length_le h]
    simp [List.getD_eq_getElem?_getD, List.getElem?_eq_none h]
theorem PlusInv.start {a : List Nat} (bs : List Nat) (h : Lim b a) : PlusInv b a bs a 0 0 := ⟨rfl, h, by omega, by simp, rfl⟩
theorem PlusInv.step (hb : 1 < b) {a bs o : List Nat} {c k : Nat} (h : PlusInv b a bs o c k) (hB : Lim b bs) (hk : k < a.length) :
    PlusInv b a bs (o.set k ((o.getD k 0 + bs.getD k 0 + c) % b)) ((o.getD k 0 + bs.getD k 0 + c) / b) (k + 1) := by
  have hx := h.lim.getD (by omega) k
  have hy := hB.getD (by omega) k
  have hc := h.car
  have he := getD_of_drop h.rest
  refine ⟨by simp [h.len], h.lim.set _ _ (Nat.mod_lt _ (by omega)), ?_, ?_, ?_⟩
  · have : (o.getD k 0 + bs.getD k 0 + c) < 2 * b := by omega
    have := (Nat.div_lt_iff_lt_mul (by omega)).2 this
    omega
  · rw [take_set_self (by rw [h.len]; exact hk), val_append, List.length_take, Nat.min_eq_left (by rw [h.len]; omega), val_take_getD a k, val_take_getD bs k]
    simp only [val_cons, val_nil, Nat.mul_zero, Nat.add_zero, Nat.pow_succ]
    rw [Nat.add_assoc, mul_mod_div, Nat.mul_add, Nat.mul_add, he]
    have := h.sum
    omega
  · rw [drop_set_succ]; exact drop_succ_of_drop h.rest
theorem PlusInv.last (hb : 1 < b) {a bs o : List Nat} {c : Nat} (ha : Lim b a) (hB : Lim b bs) (h : PlusInv b (a ++ [0]) bs o c (a.length + 1)) (hl : bs.length ≤ a.length) : val b o = val b a + val b bs := by
  have h1 := h.sum
  rw [List.take_of_length_le (by rw [h.len]; simp), List.take_of_length_le (show (a ++ [0]).length ≤ a.length + 1 by simp), List.take_of_length_le (show bs.length ≤ a.length + 1 by omega), val_append] at h1
  simp only [val_cons, val_nil, Nat.mul_zero, Nat.add_zero] at h1
  have h2 := val_lt ha
  have h3 := val_lt hB
  have h4 : b ^ bs.length ≤ b ^ a.length := Nat.pow_le_pow_right (by omega) hl
  have h5 : 2 * b ^ a.length ≤ b ^ (a.length + 1) := by rw [Nat.pow_succ, Nat.mul_comm]; exact Nat.mul_le_mul_left _ (by omega)
  have hc := h.car
  rcases (show c = 0 ∨ c = 1 by omega) with rfl | rfl
  · omega
  · omega

/-! ### The difference, round by round -/
structure MinusInv (b : Nat) (a bs o : List Nat) (c k : Nat) : Prop where
  len : o.length = a.length
  lim : Lim b o
  car : c ≤ 1
  sum : val b (o.take k) + val b (bs.take k) = val b (a.take k) + b ^ k * c
  rest : o.drop k = a.drop k
theorem MinusInv.start {a : List Nat} (bs : List Nat) (h : Lim b a) : MinusInv b a bs a 0 0 := ⟨rfl, h, by omega, by simp, rfl⟩
theorem sub_digit (hb : 1 < b) {u y c : Nat} (hu : u < b) (hy : y < b) (hc : c ≤ 1) :
    (u + b - y - c) % b + y + c = u + b * (if u < y + c then 1 else 0) := by
  split
  · rename_i h
    rw [Nat.mod_eq_of_lt (by omega)]; omega
  · rename_i h
    rw [show u + b - y - c = (u - y - c) + b by omega, Nat.add_mod_right, Nat.mod_eq_of_lt (by omega)]; omega
theorem MinusInv.step (hb : 1 < b) {a bs o : List Nat} {c k : Nat} (h : MinusInv b a bs o c k) (hB : Lim b bs) (hk : k < a.length) :
    MinusInv b a bs (o.set k ((o.getD k 0 + b - bs.getD k 0 - c) % b)) (if o.getD k 0 < bs.getD k 0 + c then 1 else 0) (k + 1) := by
  have hx := h.lim.getD (by omega) k
  have hy := hB.getD (by omega) k
  have hc := h.car
  have he := getD_of_drop h.rest
  refine ⟨by simp [h.len], h.lim.set _ _ (Nat.mod_lt _ (by omega)), by split <;> omega, ?_, ?_⟩
  · rw [take_set_self (by rw [h.len]; exact hk), val_append, List.length_take, Nat.min_eq_left (by rw [h.len]; omega), val_take_getD a k, val_take_getD bs k]
    simp only [val_cons, val_nil, Nat.mul_zero, Nat.add_zero, Nat.pow_succ]
    have hd := congrArg (b ^ k * ·) (sub_digit hb hx hy hc)
    simp only [Nat.mul_add] at hd
    rw [← Nat.mul_assoc] at hd
    have := h.sum
    rw [he] at hd ⊢
    omega
  · rw [drop_set_succ]; exact drop_succ_of_drop h.rest
theorem MinusInv.last {a bs o : List Nat} {c : Nat} (h : MinusInv b a bs o c a.length) (hl : bs.length ≤ a.length) (hle : val b bs ≤ val b a) : val b o = val b a - val b bs := by
  have h1 := h.sum
  rw [List.take_of_length_le (by rw [h.len]; omega), List.take_of_length_le (Nat.le_refl a.length), List.take_of_length_le hl] at h1
  have h2 := val_lt h.lim
  rw [h.len] at h2
  have hc := h.car
  rcases (show c = 0 ∨ c = 1 by omega) with rfl | rfl
  · omega
  · omega
end
/-! ### The product, round by round -/
section
variable {b : Nat}
theorem muladd_lt (hb : 1 < b) {x y c o : Nat} (hx : x < b) (hy : y < b) (hc : c < b) (ho : o < b) : o + (x * y + c) < b * b := by
  have h1 : x * y ≤ (b - 1) * (b - 1) := Nat.mul_le_mul (by omega) (by omega)
  obtain ⟨d, rfl⟩ : ∃ d, b = d + 1 := ⟨b - 1, by omega⟩
  simp only [Nat.add_sub_cancel] at h1
  have h2 : (d + 1) * (d + 1) = d * d + 2 * d + 1 := by simp only [Nat.add_mul, Nat.mul_add]; omega
  omega
/-- The inner loop: row i of a, so far j digits of bs. -/
structure TimesIn (b : Nat) (bs o0 o : List Nat) (x i c j : Nat) : Prop where
  len : o.length = o0.length
  lim : Lim b o
  car : c < b
  sum : val b o + b ^ (i + j) * c = val b o0 + b ^ i * (x * val b (bs.take j))
  zero : ∀ k, i + bs.length ≤ k → o.getD k 0 = 0
theorem TimesIn.step (hb : 1 < b) {bs o0 o : List Nat} {x i c j : Nat} (h : TimesIn b bs o0 o x i c j) (hx : x < b) (hB : Lim b bs) (hj : j < bs.length) (hl : i + bs.length ≤ o0.length) :
    TimesIn b bs o0 (o.set (i + j) ((o.getD (i + j) 0 + (x * bs.getD j 0 + c)) % b)) x i ((o.getD (i + j) 0 + (x * bs.getD j 0 + c)) / b) (j + 1) := by
  have hy := hB.getD (by omega) j
  have ho := h.lim.getD (by omega) (i + j)
  refine ⟨by simp [h.len], h.lim.set _ _ (Nat.mod_lt _ (by omega)), ?_, ?_, ?_⟩
  · exact (Nat.div_lt_iff_lt_mul (by omega)).2 (muladd_lt hb hx hy h.car ho)
  · have h1 := val_set (b := b) (xs := o) (k := i + j) (by rw [h.len]; omega) ((o.getD (i + j) 0 + (x * bs.getD j 0 + c)) % b)
    have h2 := mul_mod_div (b := b) (b ^ (i + j)) (o.getD (i + j) 0 + (x * bs.getD j 0 + c))
    have h3 := h.sum
    rw [val_take_getD bs j]
    rw [show i + (j + 1) = (i + j) + 1 by omega, Nat.pow_succ]
    have h4 : b ^ i * (x * (val b (bs.take j) + b ^ j * bs.getD j 0)) = b ^ i * (x * val b (bs.take j)) + b ^ (i + j) * (x * bs.getD j 0) := by
      rw [Nat.mul_add, Nat.mul_add, Nat.pow_add, Nat.mul_left_comm x (b ^ j), Nat.mul_assoc (b ^ i) (b ^ j)]
    rw [h4]
    rw [Nat.mul_add, Nat.mul_add] at h2
    omega
  · intro k hk
    rw [getD_set_ne (by omega)]
    exact h.zero k hk
/-- The outer loop: so far i digits of a. -/
structure TimesInv (b : Nat) (a bs o : List Nat) (i : Nat) : Prop where
  len : o.length = a.length + bs.length
  lim : Lim b o
  sum : val b o = val b (a.take i) * val b bs
  zero : ∀ k, i + bs.length ≤ k → o.getD k 0 = 0
theorem TimesInv.start (hb : 1 < b) (a bs : List Nat) : TimesInv b a bs (List.replicate (a.length + bs.length) 0) 0 :=
  ⟨by simp, Lim.zeros (by omega) _, by simp [val_zeros], fun k _ => by simp [List.getD_eq_getElem?_getD, List.getElem?_replicate]; split <;> rfl⟩
theorem TimesInv.step {a bs o0 o : List Nat} {i c : Nat} (h0 : TimesInv b a bs o0 i) (h : TimesIn b bs o0 o (a.getD i 0) i c bs.length) (hi : i < a.length) :
    TimesInv b a bs (o.set (i + bs.length) c) (i + 1) := by
  refine ⟨by simp [h.len, h0.len], h.lim.set _ _ h.car, ?_, ?_⟩
  · have h1 := val_set (b := b) (xs := o) (k := i + bs.length) (by rw [h.len, h0.len]; omega) c
    rw [h.zero _ (Nat.le_refl _)] at h1
    have h2 := h.sum
    rw [List.take_of_length_le (Nat.le_refl bs.length), h0.sum] at h2
    rw [val_take_getD a i, Nat.add_mul, Nat.mul_assoc]
    omega
  · intro k hk
    rw [getD_set_ne (by omega)]
    exact h.zero k (by omega)
theorem TimesInv.last {a bs o : List Nat} (h : TimesInv b a bs o a.length) : val b o = val b a * val b bs := by
  rw [h.sum, List.take_of_length_le (Nat.le_refl _)]

/-! ### The quotient by one digit, from the top -/
structure ShortInv (b : Nat) (a q : List Nat) (d r k : Nat) : Prop where
  len : q.length = a.length
  lim : Lim b q
  rest : r < d
  sum : val b (a.drop k) = val b (q.drop k) * d + r
theorem ShortInv.start (hb : 1 < b) (a : List Nat) (d : Nat) (hd : 0 < d) : ShortInv b a (List.replicate a.length 0) d 0 a.length :=
  ⟨by simp, Lim.zeros (by omega) _, hd, by simp⟩
theorem drop_set_self {xs : List Nat} {k : Nat} (h : k < xs.length) (v : Nat) : val b ((xs.set k v).drop k) = v + b * val b (xs.drop (k + 1)) := by
  rw [val_drop_cons (by simpa using h), getD_set_self h, drop_set_succ]
theorem ShortInv.step {a q : List Nat} {d r k : Nat} (h : ShortInv b a q d r (k + 1)) (hA : Lim b a) (hb : 1 < b) (hk : k < a.length) :
    ShortInv b a (q.set k ((r * b + a.getD k 0) / d)) d ((r * b + a.getD k 0) % d) k ∧ (r * b + a.getD k 0) / d < b := by
  have ha := hA.getD (by omega) k
  have hr := h.rest
  have hlt : (r * b + a.getD k 0) / d < b := by
    rw [Nat.div_lt_iff_lt_mul (by omega)]
    have : (r + 1) * b ≤ d * b := Nat.mul_le_mul_right _ hr
    rw [Nat.add_mul, Nat.one_mul, Nat.mul_comm d] at this
    omega
  refine ⟨⟨by simp [h.len], h.lim.set _ _ hlt, Nat.mod_lt _ (by omega), ?_⟩, hlt⟩
  rw [val_drop_cons hk, h.sum, drop_set_self (by rw [h.len]; exact hk)]
  have h1 := Nat.mod_add_div (r * b + a.getD k 0) d
  rw [Nat.mul_comm d] at h1
  rw [Nat.mul_add, Nat.add_mul, Nat.mul_assoc b, Nat.mul_comm b r]
  omega
theorem ShortInv.last {a q : List Nat} {d r : Nat} (h : ShortInv b a q d r 0) : val b q = val b a / d ∧ r = val b a % d := by
  have h1 := h.sum
  have h2 := h.rest
  simp only [List.drop_zero] at h1
  rw [h1, Nat.mul_comm]
  exact ⟨by rw [Nat.mul_add_div (by omega), Nat.div_eq_of_lt h2]; rfl, by rw [Nat.mul_add_mod, Nat.mod_eq_of_lt h2]⟩
end

/-! ### Shifts of limbs -/
theorem shl_hi {x r : Nat} (hr : r < 64) : x * 2 ^ r / BB = x / 2 ^ (64 - r) := by
  rw [BB_eq, show 2 ^ 64 = 2 ^ (64 - r) * 2 ^ r by rw [← Nat.pow_add, Nat.sub_add_cancel (by omega)]]
  exact Nat.mul_div_mul_right _ _ (Nat.two_pow_pos r)
theorem shl_hi_lt {x r : Nat} (hx : x < BB) (hr : r < 64) : x / 2 ^ (64 - r) < 2 ^ r := by
  rw [Nat.div_lt_iff_lt_mul (Nat.two_pow_pos _), ← Nat.pow_add, show r + (64 - r) = 64 by omega, ← BB_eq]
  exact hx
theorem shl_lo_mod (x r : Nat) (hr : r < 64) : x * 2 ^ r % BB % 2 ^ r = 0 := by
  rw [BB_eq, show 2 ^ 64 = 2 ^ r * 2 ^ (64 - r) by rw [← Nat.pow_add]; congr 1; omega, Nat.mul_comm x, Nat.mul_mod_mul_left]
  exact Nat.mul_mod_right _ _
theorem pow_BB (k : Nat) : BB ^ k = 2 ^ (64 * k) := by rw [BB_eq, ← Nat.pow_mul]
/-- Left: k limbs done, q whole limbs and r bits. -/
structure LeftInv (a o : List Nat) (q r k : Nat) : Prop where
  len : o.length = q + a.length + 1
  lim : Lim BB o
  sum : val BB o = val BB (a.take k) * 2 ^ (64 * q + r)
  top : o.getD (q + k) 0 < 2 ^ r
  zero : ∀ i, q + k < i → o.getD i 0 = 0
theorem LeftInv.start (a : List Nat) (q r : Nat) : LeftInv a (List.replicate (q + a.length + 1) 0) q r 0 := by
  have hz : ∀ i, (List.replicate (q + a.length + 1) 0).getD i 0 = 0 := fun i => by
    simp [List.getD_eq_getElem?_getD, List.getElem?_replicate]; split <;> rfl
  refine ⟨by simp, Lim.zeros BB_pos _, by simp [val_zeros], ?_, fun i _ => hz i⟩
  rw [hz]; exact Nat.two_pow_pos r
theorem LeftInv.step {a o : List Nat} {q r k : Nat} (h : LeftInv a o q r k) (hA : Lim BB a) (hr : r < 64) (hk : k < a.length) :
    LeftInv a ((o.set (q + k) (o.getD (q + k) 0 + a.getD k 0 * 2 ^ r % BB)).set (q + k + 1) (a.getD k 0 / 2 ^ (64 - r))) q r (k + 1) := by
  have hx := hA.getD BB_pos k
  have hl := h.len
  have ht := h.top
  have hlo : o.getD (q + k) 0 + a.getD k 0 * 2 ^ r % BB < BB := by
    have h1 := shl_lo_mod (a.getD k 0) r hr
    have h2 : a.getD k 0 * 2 ^ r % BB < BB := Nat.mod_lt _ BB_pos
    obtain ⟨m, hm⟩ : ∃ m, a.getD k 0 * 2 ^ r % BB = 2 ^ r * m := ⟨_, (Nat.mul_div_cancel' (Nat.dvd_of_mod_eq_zero h1)).symm⟩
    have hB : BB = 2 ^ r * 2 ^ (64 - r) := by rw [BB_eq, ← Nat.pow_add]; congr 1; omega
    rw [hm] at h2 ⊢
    rw [hB] at h2 ⊢
    have h3 := Nat.lt_of_mul_lt_mul_left h2
    calc o.getD (q + k) 0 + 2 ^ r * m < 2 ^ r + 2 ^ r * m := by omega
      _ = 2 ^ r * (m + 1) := by rw [Nat.mul_add, Nat.mul_one, Nat.add_comm]
      _ ≤ _ := Nat.mul_le_mul_left _ h3
  have hhi := shl_hi_lt hx hr
  have hhi' : a.getD k 0 / 2 ^ (64 - r) < BB := Nat.lt_of_le_of_lt (Nat.div_le_self _ _) hx
  refine ⟨by simp [hl], (h.lim.set _ _ hlo).set _ _ hhi', ?_, ?_, ?_⟩
  · have h1 := val_set (b := BB) (xs := o) (k := q + k) (by omega) (o.getD (q + k) 0 + a.getD k 0 * 2 ^ r % BB)
    have h2 := val_set (b := BB) (xs := o.set (q + k) (o.getD (q + k) 0 + a.getD k 0 * 2 ^ r % BB)) (k := q + k + 1) (by simp [hl]; omega) (a.getD k 0 / 2 ^ (64 - r))
    rw [getD_set_ne (show q + k ≠ q + k + 1 by omega), h.zero (q + k + 1) (by omega), Nat.mul_zero, Nat.add_zero] at h2
    rw [Nat.mul_add] at h1
    rw [h2, val_take_getD a k, Nat.add_mul, ← h.sum, ← shl_hi hr]
    have h3 : BB ^ (q + k) * (a.getD k 0 * 2 ^ r % BB) + BB ^ (q + k + 1) * (a.getD k 0 * 2 ^ r / BB) = BB ^ k * a.getD k 0 * 2 ^ (64 * q + r) := by
      rw [Nat.pow_succ, mul_mod_div, Nat.pow_add 2, ← pow_BB, Nat.pow_add]
      simp only [Nat.mul_assoc, Nat.mul_left_comm]
    omega
  · rw [show q + (k + 1) = q + k + 1 by omega, getD_set_self (by simp [hl]; omega)]
    exact hhi
  · intro i hi
    rw [getD_set_ne (by omega), getD_set_ne (by omega)]
    exact h.zero i (by omega)
theorem LeftInv.last {a o : List Nat} {q r : Nat} (h : LeftInv a o q r a.length) : val BB o = val BB a * 2 ^ (64 * q + r) := by
  rw [h.sum, List.take_of_length_le (Nat.le_refl _)]

/-- Right: k limbs done. -/
structure RightInv (a o : List Nat) (r k : Nat) : Prop where
  len : o.length = a.length
  lim : Lim BB o
  sum : val BB (o.take k) * 2 ^ r + a.getD 0 0 % 2 ^ r = val BB (a.take k) + BB ^ k * (a.getD k 0 % 2 ^ r)
/-- What stands in a limb that was shifted to the right, the next one's lowest bits ahead. -/
def rlimb (x y r : Nat) : Nat := x / 2 ^ r + y * 2 ^ (64 - r) % BB
theorem rlimb_parts (x y r : Nat) (hr : r < 64) : rlimb x y r * 2 ^ r + x % 2 ^ r = x + BB * (y % 2 ^ r) := by
  have hB : BB = 2 ^ r * 2 ^ (64 - r) := by rw [BB_eq, ← Nat.pow_add]; congr 1; omega
  unfold rlimb
  have h1 : y * 2 ^ (64 - r) % BB * 2 ^ r = BB * (y % 2 ^ r) := by
    conv => lhs; rw [hB, Nat.mul_mod_mul_right, Nat.mul_assoc, ← Nat.pow_add, Nat.sub_add_cancel (by omega), ← BB_eq]
    exact Nat.mul_comm _ _
  have h2 := Nat.mod_add_div x (2 ^ r)
  rw [Nat.add_mul, h1, Nat.mul_comm (x / _)]
  omega
theorem rlimb_lt {x y r : Nat} (hx : x < BB) (hr : r < 64) : rlimb x y r < BB := by
  have h := rlimb_parts x y r hr
  have h1 : y % 2 ^ r < 2 ^ r := Nat.mod_lt _ (Nat.two_pow_pos _)
  have h2 : rlimb x y r * 2 ^ r < BB * 2 ^ r := by
    have h3 : BB * (y % 2 ^ r) + BB ≤ BB * 2 ^ r := by
      calc BB * (y % 2 ^ r) + BB = BB * (y % 2 ^ r + 1) := by rw [Nat.mul_add, Nat.mul_one]
        _ ≤ _ := Nat.mul_le_mul_left _ h1
    omega
  exact Nat.lt_of_mul_lt_mul_right h2
theorem RightInv.start (a : List Nat) (r : Nat) : RightInv a (List.replicate a.length 0) r 0 := ⟨by simp, Lim.zeros BB_pos _, by simp⟩
theorem RightInv.step {a o : List Nat} {r k : Nat} (h : RightInv a o r k) (hA : Lim BB a) (hr : r < 64) (hk : k < a.length) :
    RightInv a (o.set k (rlimb (a.getD k 0) (a.getD (k + 1) 0) r)) r (k + 1) := by
  refine ⟨by simp [h.len], h.lim.set _ _ (rlimb_lt (hA.getD BB_pos k) hr), ?_⟩
  rw [take_set_self (by rw [h.len]; exact hk), val_append, List.length_take, Nat.min_eq_left (by rw [h.len]; omega), val_take_getD a k]
  simp only [val_cons, val_nil, Nat.mul_zero, Nat.add_zero]
  have h1 := h.sum
  have h2 := congrArg (BB ^ k * ·) (rlimb_parts (a.getD k 0) (a.getD (k + 1) 0) r hr)
  simp only [Nat.mul_add] at h2
  rw [Nat.add_mul, Nat.pow_succ]
  simp only [Nat.mul_assoc] at h2 ⊢
  omega
theorem RightInv.last {a o : List Nat} {r : Nat} (h : RightInv a o r a.length) : val BB o = val BB a / 2 ^ r := by
  have h1 := h.sum
  rw [List.take_of_length_le (by rw [h.len]; omega), List.take_of_length_le (Nat.le_refl a.length)] at h1
  have h2 : a.getD a.length 0 = 0 := by simp [List.getD_eq_getElem?_getD]
  rw [h2, Nat.zero_mod, Nat.mul_zero, Nat.add_zero] at h1
  rw [← h1, Nat.mul_comm, Nat.mul_add_div (Nat.two_pow_pos r), Nat.div_eq_of_lt (Nat.mod_lt _ (Nat.two_pow_pos r))]
  rfl
/-! ### One digit of a long quotient: u of n + 1 digits by v of n -/
section
variable {b : Nat}
structure SubInv (b x : Nat) (v u0 u : List Nat) (c w k : Nat) : Prop where
  len : u.length = u0.length
  lim : Lim b u
  car : c < b
  bor : w ≤ 1
  sum : val b (u.take k) + x * val b (v.take k) = val b (u0.take k) + b ^ k * (c + w)
  rest : u.drop k = u0.drop k
theorem SubInv.start (hb : 1 < b) (x : Nat) (v : List Nat) {u0 : List Nat} (h : Lim b u0) : SubInv b x v u0 u0 0 0 0 := ⟨rfl, h, by omega, by omega, by simp, rfl⟩
theorem SubInv.step (hb : 1 < b) {x : Nat} {v u0 u : List Nat} {c w k : Nat} (h : SubInv b x v u0 u c w k) (hx : x < b) (hV : Lim b v) (hk : k < u0.length) :
    SubInv b x v u0 (u.set k ((u.getD k 0 + b - (x * v.getD k 0 + c) % b - w) % b)) ((x * v.getD k 0 + c) / b) (if u.getD k 0 < (x * v.getD k 0 + c) % b + w then 1 else 0) (k + 1) := by
  have hy := hV.getD (by omega) k
  have hu := h.lim.getD (by omega) k
  have he := getD_of_drop h.rest
  refine ⟨by simp [h.len], h.lim.set _ _ (Nat.mod_lt _ (by omega)), ?_, by split <;> omega, ?_, ?_⟩
  · have := muladd_lt hb hx hy h.car (show 0 < b by omega)
    rw [Nat.zero_add] at this
    exact (Nat.div_lt_iff_lt_mul (by omega)).2 this
  · rw [take_set_self (by rw [h.len]; exact hk), val_append, List.length_take, Nat.min_eq_left (by rw [h.len]; omega), val_take_getD v k, val_take_getD u0 k]
    simp only [val_cons, val_nil, Nat.mul_zero, Nat.add_zero]
    have h1 := congrArg (b ^ k * ·) (sub_digit hb hu (Nat.mod_lt (x * v.getD k 0 + c) (show b > 0 by omega)) h.bor)
    have h2 := mul_mod_div (b := b) (b ^ k) (x * v.getD k 0 + c)
    have h3 := h.sum
    simp only [Nat.mul_add] at h1 h2 h3 ⊢
    rw [← Nat.mul_assoc (b ^ k) b] at h1
    rw [Nat.pow_succ, ← he]
    rw [Nat.mul_left_comm x (b ^ k)]
    omega
  · rw [drop_set_succ]; exact drop_succ_of_drop h.rest
theorem SubInv.last (hb : 1 < b) {x : Nat} {v u0 u : List Nat} {c w : Nat} (h : SubInv b x v u0 u c w v.length) (hl : u0.length = v.length + 1) :
    Lim b (u.set v.length ((u.getD v.length 0 + b - c - w) % b)) ∧
    val b (u.set v.length ((u.getD v.length 0 + b - c - w) % b)) + x * val b v = val b u0 + b ^ (v.length + 1) * (if u.getD v.length 0 < c + w then 1 else 0) := by
  refine ⟨h.lim.set _ _ (Nat.mod_lt _ (by omega)), ?_⟩
  have hu := h.lim.getD (by omega) v.length
  have h1 := congrArg (b ^ v.length * ·) (sub_digit hb hu h.car h.bor)
  have h2 := val_set (b := b) (xs := u) (k := v.length) (by rw [h.len]; omega) ((u.getD v.length 0 + b - c - w) % b)
  have h3 := h.sum
  have e1 := val_take_getD (b := b) u v.length
  have e2 := val_take_getD (b := b) u0 v.length
  rw [List.take_of_length_le (by rw [h.len]; omega)] at e1
  rw [List.take_of_length_le (by omega)] at e2
  rw [List.take_of_length_le (Nat.le_refl v.length)] at h3
  have he := getD_of_drop h.rest
  simp only [Nat.mul_add] at h1 h3 ⊢
  rw [← Nat.mul_assoc (b ^ v.length) b, ← Nat.pow_succ] at h1
  simp only [Nat.succ_eq_add_one] at h1
  rw [← he] at e2
  omega
/-! What the top digits tell. -/
structure Tops (b : Nat) (u v : List Nat) : Prop where
  lenv : 2 ≤ v.length
  lenu : u.length = v.length + 1
  limu : Lim b u
  limv : Lim b v
  top : 0 < v.getD (v.length - 1) 0
  lt : val b u < b * val b v
section
variable {u v : List Nat}
theorem val_top1 (xs : List Nat) (h : 1 ≤ xs.length) : val b xs = val b (xs.take (xs.length - 1)) + b ^ (xs.length - 1) * xs.getD (xs.length - 1) 0 := by
  have h1 := val_take_getD (b := b) xs (xs.length - 1)
  rw [List.take_of_length_le (by omega)] at h1
  exact h1
theorem val_top2 (xs : List Nat) (h : 2 ≤ xs.length) : val b xs = val b (xs.take (xs.length - 2)) + b ^ (xs.length - 2) * (xs.getD (xs.length - 1) 0 * b + xs.getD (xs.length - 2) 0) := by
  have h1 := val_take_getD (b := b) xs (xs.length - 2)
  rw [show xs.length - 2 + 1 = xs.length - 1 by omega] at h1
  have e : b ^ (xs.length - 1) = b ^ (xs.length - 2) * b := by rw [← Nat.pow_succ]; congr 1; omega
  rw [val_top1 xs (by omega), h1, e]
  generalize xs.getD (xs.length - 1) 0 = t
  rw [Nat.mul_add, Nat.mul_comm t b, Nat.mul_assoc]
  omega
theorem Tops.u2 (h : Tops b u v) : val b u < (u.getD v.length 0 * b + u.getD (v.length - 1) 0 + 1) * b ^ (v.length - 1) := by
  have h2 := h.lenv
  have h3 := h.lenu
  have h1 := val_lt (h.limu.take (u.length - 2))
  rw [List.length_take, Nat.min_eq_left (by omega), show u.length - 2 = v.length - 1 by omega] at h1
  rw [val_top2 u (by omega), show u.length - 2 = v.length - 1 by omega, show u.length - 1 = v.length by omega, Nat.add_mul _ 1, Nat.one_mul, Nat.mul_comm (b ^ _)]
  omega
theorem Tops.u3_eq (h : Tops b u v) : val b u = val b (u.take (v.length - 2)) + b ^ (v.length - 2) * ((u.getD v.length 0 * b + u.getD (v.length - 1) 0) * b + u.getD (v.length - 2) 0) := by
  have h2 := h.lenv
  have h3 := h.lenu
  have h1 := val_take_getD (b := b) u (v.length - 2)
  rw [show v.length - 2 + 1 = v.length - 1 by omega] at h1
  rw [val_top2 u (by omega), show u.length - 2 = v.length - 1 by omega, show u.length - 1 = v.length by omega, h1]
  have e : b ^ (v.length - 1) = b ^ (v.length - 2) * b := by rw [← Nat.pow_succ]; congr 1; omega
  generalize u.getD v.length 0 * b + u.getD (v.length - 1) 0 = t
  rw [e, Nat.mul_add, Nat.mul_comm t b, Nat.mul_assoc]
  omega
theorem Tops.u3 (h : Tops b u v) : val b u < ((u.getD v.length 0 * b + u.getD (v.length - 1) 0) * b + u.getD (v.length - 2) 0 + 1) * b ^ (v.length - 2) := by
  have h2 := h.lenv
  have h3 := h.lenu
  have h1 := val_lt (h.limu.take (v.length - 2))
  rw [List.length_take, Nat.min_eq_left (by omega)] at h1
  rw [h.u3_eq, Nat.add_mul _ 1, Nat.one_mul, Nat.mul_comm (b ^ _)]
  omega
end

/-- The whole quotient, from the top: J digits are still to come. -/
structure QuoInv (b V : Nat) (us0 us q : List Nat) (n J : Nat) : Prop where
  len : us.length = us0.length
  lim : Lim b us
  limq : Lim b q
  lenq : q.length + n = us0.length
  sum : val b us0 = val b us + V * (b ^ J * val b (q.drop J))
  top : val b (us.drop J) < V
theorem QuoInv.start (hb : 1 < b) {us0 : List Nat} (h : Lim b us0) {V n m : Nat} (hm : m + n = us0.length) (ht : val b (us0.drop m) < V) : QuoInv b V us0 us0 (List.replicate m 0) n m :=
  ⟨rfl, h, Lim.zeros (by omega) _, by simp; omega, by simp, ht⟩
/-- What stands above the n + 1 digits is nought. -/
theorem QuoInv.above {V : Nat} {us0 us q : List Nat} {n J : Nat} (h : QuoInv b V us0 us q n (J + 1)) (hV : V < b ^ n) (hJ : J < q.length) :
    val b ((us.drop J).take (n + 1)) = val b (us.drop J) ∧ val b (us.drop (J + (n + 1))) = 0 := by
  have hlq := h.lenq
  have hl := h.len
  have h1 := val_take_drop (b := b) (us.drop (J + 1)) n
  rw [List.length_drop, Nat.min_eq_left (by omega), List.drop_drop] at h1
  have h2 := h.top
  have h3 : val b (us.drop (J + 1 + n)) = 0 := by
    rcases Nat.eq_zero_or_pos (val b (us.drop (J + 1 + n))) with h' | h'
    · exact h'
    · exfalso
      have : b ^ n * 1 ≤ b ^ n * val b (us.drop (J + 1 + n)) := Nat.mul_le_mul_left _ h'
      omega
  have h4 := val_take_drop (b := b) (us.drop J) (n + 1)
  rw [List.length_drop, Nat.min_eq_left (by omega), List.drop_drop, show J + (n + 1) = J + 1 + n by omega, h3] at h4
  exact ⟨by rw [h4]; omega, by rw [show J + (n + 1) = J + 1 + n by omega, h3]⟩
theorem QuoInv.small (hb : 0 < b) {V : Nat} {us0 us q : List Nat} {n J : Nat} (h : QuoInv b V us0 us q n (J + 1)) (hJ : J < us.length) : val b (us.drop J) < b * V := by
  have h1 := val_drop_cons (b := b) hJ
  have h2 := h.lim.getD hb J
  have h3 := h.top
  have h4 : b * (val b (us.drop (J + 1)) + 1) ≤ b * V := Nat.mul_le_mul_left _ h3
  rw [Nat.mul_add] at h4
  omega
theorem QuoInv.step (hb : 1 < b) {V : Nat} {us0 us q : List Nat} {n J : Nat} (h : QuoInv b V us0 us q n (J + 1)) (hV0 : 0 < V) (hV : V < b ^ n) (hJ : J < q.length) {seg : List Nat}
    (hs : seg.length = n + 1) (hls : Lim b seg) (hseg : val b seg = val b ((us.drop J).take (n + 1)) % V) :
    QuoInv b V us0 (us.take J ++ (seg ++ us.drop (J + (n + 1)))) (q.set J (val b ((us.drop J).take (n + 1)) / V)) n J := by
  have hlq := h.lenq
  have hl := h.len
  obtain ⟨ha, hz⟩ := h.above hV hJ
  have hsm := h.small (by omega) (by omega)
  rw [ha] at hseg ⊢
  have htl : (us.take J).length = J := by rw [List.length_take]; omega
  have hd : val b (us.drop J) / V < b := by rw [Nat.div_lt_iff_lt_mul hV0]; exact hsm
  refine ⟨?_, (h.lim.take _).append (hls.append (h.lim.drop _)), h.limq.set _ _ hd, by simpa using hlq, ?_, ?_⟩
  · simp only [List.length_append, List.length_take, List.length_drop]; omega
  · rw [h.sum, val_append, val_append, hz, Nat.mul_zero, Nat.add_zero, htl, hseg]
    have e1 := val_take_drop (b := b) us J
    rw [Nat.min_eq_left (by omega)] at e1
    have e2 := Nat.mod_add_div (val b (us.drop J)) V
    have e4 : b ^ J * (b * val b (q.drop (J + 1))) = b ^ (J + 1) * val b (q.drop (J + 1)) := by rw [← Nat.mul_assoc, ← Nat.pow_succ]
    rw [drop_set_self hJ, Nat.mul_add (b ^ J) (val b (us.drop J) / V), e4, e1]
    have e3 : b ^ J * val b (us.drop J) = b ^ J * (val b (us.drop J) % V) + b ^ J * (V * (val b (us.drop J) / V)) := by rw [← Nat.mul_add, e2]
    rw [Nat.mul_left_comm] at e3
    rw [Nat.mul_add V]
    simp only [Nat.add_zero]
    omega
  · rw [List.drop_append_of_le_length (by omega), List.drop_of_length_le (by omega), List.nil_append, val_append, hz, Nat.mul_zero, Nat.add_zero, hseg]
    exact Nat.mod_lt _ hV0
theorem QuoInv.last {V : Nat} {us0 us q : List Nat} {n : Nat} (h : QuoInv b V us0 us q n 0) : val b q = val b us0 / V ∧ val b us = val b us0 % V := by
  have h1 := h.sum
  have h2 := h.top
  simp only [List.drop_zero, Nat.pow_zero, Nat.one_mul] at h1 h2
  rw [h1]
  exact ⟨by rw [Nat.add_comm, Nat.mul_add_div (by omega), Nat.div_eq_of_lt h2]; rfl, by rw [Nat.add_mul_mod_self_left, Nat.mod_eq_of_lt h2]⟩
end
/-! ### Digits of sixteen bits -/
theorem BB_DD : BB = DD ^ 4 := rfl
def parts (x : Nat) : List Nat := [x % DD, x / DD % DD, x / DD ^ 2 % DD, x / DD ^ 3 % DD]
theorem parts_lim (x : Nat) : Lim DD (parts x) := by
  intro y hy
  simp only [parts, List.mem_cons, List.not_mem_nil, or_false] at hy
  rcases hy with rfl | rfl | rfl | rfl <;> exact Nat.mod_lt _ DD_pos
theorem parts_val {x : Nat} (h : x < BB) : val DD (parts x) = x := by
  simp only [parts, val_cons, val_nil, Nat.mul_zero, Nat.add_zero]
  unfold BB at h
  simp only [DD, Nat.pow_succ, Nat.pow_zero, Nat.one_mul]
  omega
theorem val_parts {xs : List Nat} (h : Lim BB xs) : val DD (xs.flatMap parts) = val BB xs := by
  induction xs with
  | nil => rfl
  | cons x xs ih =>
    rw [List.flatMap_cons, val_append, ih h.tail, parts_val h.head, val_cons, BB_DD]
    simp [parts]
theorem lim_parts (xs : List Nat) : Lim DD (xs.flatMap parts) := by
  intro y hy
  obtain ⟨x, _, h⟩ := List.mem_flatMap.1 hy
  exact parts_lim x y h
/-- So far i digits joined to limbs. -/
structure JoinInv (xs o : List Nat) (i : Nat) : Prop where
  len : o.length = (i + 3) / 4
  sum : val BB o = val DD (xs.take i)
  low : ∀ k, k + 1 < o.length → o.getD k 0 < BB
  top : i % 4 ≠ 0 → o.getD (i / 4) 0 < DD ^ (i % 4)
  lim : Lim BB o
theorem JoinInv.start (xs : List Nat) : JoinInv xs [] 0 := ⟨rfl, rfl, fun k h => by simp at h, fun h => by simp at h, Lim.nil⟩
theorem join_lt {c k : Nat} (hc : c < DD) (hk : k < 4) : c * DD ^ k < BB := by
  have h1 : c * DD ^ k < DD * DD ^ k := (Nat.mul_lt_mul_right (Nat.pow_pos DD_pos)).2 hc
  have h2 : DD * DD ^ k ≤ DD ^ 4 := by rw [Nat.mul_comm, ← Nat.pow_succ]; exact Nat.pow_le_pow_right DD_pos (by omega)
  rw [BB_DD]; omega
theorem join_top {t c k : Nat} (ht : t < DD ^ k) (hc : c < DD) : t + c * DD ^ k < DD ^ (k + 1) := by
  have h : (c + 1) * DD ^ k ≤ DD * DD ^ k := Nat.mul_le_mul_right _ hc
  rw [Nat.add_mul, Nat.one_mul] at h
  rw [Nat.pow_succ, Nat.mul_comm (DD ^ k)]
  omega
/-- A new limb. -/
theorem JoinInv.new {xs o : List Nat} {i : Nat} (h : JoinInv xs o i) (hX : Lim DD xs) (h4 : i % 4 = 0) : JoinInv xs (o ++ [xs.getD i 0]) (i + 1) := by
  have hl := h.len
  have hx := hX.getD DD_pos i
  have hlen : o.length = i / 4 := by omega
  have hx' : xs.getD i 0 < BB := by have := join_lt hx (k := 0) (by omega); simpa using this
  refine ⟨by simp; omega, ?_, ?_, ?_, h.lim.append (Lim.cons hx' Lim.nil)⟩
  · rw [val_append, val_take_getD xs i, h.sum, hlen, BB_DD, ← Nat.pow_mul]
    simp only [val_cons, val_nil, Nat.mul_zero, Nat.add_zero]
    rw [show 4 * (i / 4) = i by omega]
  · intro k hk
    exact (h.lim.append (Lim.cons hx' Lim.nil)).getD BB_pos k
  · intro _
    rw [show (i + 1) / 4 = o.length by omega, show (i + 1) % 4 = 1 by omega]
    simp [List.getD_eq_getElem?_getD]
    simpa [List.getD_eq_getElem?_getD] using hx
theorem JoinInv.more {xs o : List Nat} {i : Nat} (h : JoinInv xs o i) (hX : Lim DD xs) (h4 : i % 4 ≠ 0) :
    JoinInv xs (o.set (i / 4) (o.getD (i / 4) 0 + xs.getD i 0 * DD ^ (i % 4))) (i + 1) := by
  have hl := h.len
  have hx := hX.getD DD_pos i
  have ht := join_top (h.top h4) hx
  have hB : o.getD (i / 4) 0 + xs.getD i 0 * DD ^ (i % 4) < BB := by
    refine Nat.lt_of_lt_of_le ht ?_
    rw [BB_DD]
    exact Nat.pow_le_pow_right DD_pos (by omega)
  refine ⟨by simp; omega, ?_, ?_, ?_, h.lim.set _ _ hB⟩
  · have h1 := val_set (b := BB) (xs := o) (k := i / 4) (by omega) (o.getD (i / 4) 0 + xs.getD i 0 * DD ^ (i % 4))
    rw [Nat.mul_add] at h1
    rw [val_take_getD xs i, ← h.sum]
    have h2 : BB ^ (i / 4) * (xs.getD i 0 * DD ^ (i % 4)) = DD ^ i * xs.getD i 0 := by
      rw [BB_DD, ← Nat.pow_mul, Nat.mul_left_comm, ← Nat.pow_add, show 4 * (i / 4) + i % 4 = i by omega, Nat.mul_comm]
    omega
  · intro k _
    exact (h.lim.set _ _ hB).getD BB_pos k
  · intro h5
    rw [show (i + 1) / 4 = i / 4 by omega, getD_set_self (by omega), show (i + 1) % 4 = i % 4 + 1 by omega]
    exact ht
theorem JoinInv.last {xs o : List Nat} (h : JoinInv xs o xs.length) (hX : Lim DD xs) (hC : Cnl xs) : o = limbs BB (val DD xs) := by
  have h1 := h.sum
  rw [List.take_of_length_le (Nat.le_refl _)] at h1
  refine (limbs_of BB_gt1 h.lim ?_ h1).symm
  have hl := h.len
  intro hlast
  have hne : o ≠ [] := by intro he; rw [he] at hlast; simp at hlast
  have hol : 0 < o.length := List.length_pos_iff.2 hne
  have h2 : o.getD (o.length - 1) 0 = 0 := by
    rw [List.getLast?_eq_getElem?] at hlast
    simp [List.getD_eq_getElem?_getD, hlast]
  have h3 := val_top1 (b := BB) o (by omega)
  rw [h2, Nat.mul_zero, Nat.add_zero] at h3
  have h4 := val_lt (h.lim.take (o.length - 1))
  rw [List.length_take, Nat.min_eq_left (by omega), ← h3, h1, BB_DD, ← Nat.pow_mul] at h4
  have h5 := (limbs_len_le DD_gt1 (n := val DD xs) (k := 4 * (o.length - 1))).2 h4
  rw [limbs_of DD_gt1 hX hC rfl] at h5
  omega

/-! ### The order of digits, from the top -/
def cmpFrom (xs ys : List Nat) : Nat → Int
  | 0 => 0
  | k + 1 => if xs.getD k 0 < ys.getD k 0 then -1 else if ys.getD k 0 < xs.getD k 0 then 1 else cmpFrom xs ys k
def cmpL (xs ys : List Nat) : Int := if xs.length < ys.length then -1 else if ys.length < xs.length then 1 else cmpFrom xs ys xs.length
def cmpN (m n : Nat) : Int := if m < n then -1 else if n < m then 1 else 0
section
variable {b : Nat}
theorem cmpFrom_val (hb : 1 < b) {xs ys : List Nat} (hx : Lim b xs) (hy : Lim b ys) (k : Nat) : cmpFrom xs ys k = cmpN (val b (xs.take k)) (val b (ys.take k)) := by
  induction k with
  | zero => simp [cmpFrom, cmpN]
  | succ k ih =>
    rw [val_take_getD, val_take_getD, cmpFrom, ih]
    have hp := Nat.pow_pos (n := k) (show 0 < b by omega)
    have h1 : val b (xs.take k) < b ^ k := Nat.lt_of_lt_of_le (val_lt (hx.take k)) (Nat.pow_le_pow_right (by omega) (by rw [List.length_take]; omega))
    have h2 : val b (ys.take k) < b ^ k := Nat.lt_of_lt_of_le (val_lt (hy.take k)) (Nat.pow_le_pow_right (by omega) (by rw [List.length_take]; omega))
    generalize xs.getD k 0 = x
    generalize ys.getD k 0 = y
    have key : ∀ {x y : Nat}, x < y → b ^ k * x + b ^ k ≤ b ^ k * y := by
      intro x y h
      calc b ^ k * x + b ^ k = b ^ k * (x + 1) := by rw [Nat.mul_add, Nat.mul_one]
        _ ≤ _ := Nat.mul_le_mul_left _ h
    unfold cmpN
    rcases Nat.lt_trichotomy x y with h | h | h
    · have := key h
      rw [if_pos h, if_pos (by omega)]
    · subst h
      simp only [Nat.lt_irrefl, if_false, Nat.add_lt_add_iff_right]
    · have := key h
      rw [if_neg (by omega), if_pos h, if_neg (by omega), if_pos (by omega)]
theorem val_ge_of_can (hb : 1 < b) {xs : List Nat} (hx : Lim b xs) (cx : Cnl xs) (h : xs ≠ []) : b ^ (xs.length - 1) ≤ val b xs := by
  have hl := List.length_pos_iff.2 h
  rcases Nat.lt_or_ge (val b xs) (b ^ (xs.length - 1)) with h' | h'
  · exfalso
    have := (limbs_len_le hb).2 h'
    rw [limbs_of hb hx cx rfl] at this
    omega
  · exact h'
theorem cmpL_val (hb : 1 < b) {xs ys : List Nat} (hx : Lim b xs) (hy : Lim b ys) (cx : Cnl xs) (cy : Cnl ys) : cmpL xs ys = cmpN (val b xs) (val b ys) := by
  unfold cmpL
  have key : ∀ {xs ys : List Nat}, Lim b xs → Lim b ys → Cnl ys → xs.length < ys.length → val b xs < val b ys := by
    intro xs ys hx hy cy h
    have h1 := val_lt hx
    have h2 := val_ge_of_can hb hy cy (by intro he; rw [he] at h; simp at h)
    exact Nat.lt_of_lt_of_le (Nat.lt_of_lt_of_le h1 (Nat.pow_le_pow_right (by omega) (by omega))) h2
  split
  · rename_i h
    have := key hx hy cy h
    simp [cmpN, this]
  · split
    · rename_i h
      have := key hy hx cx h
      have h' : ¬ val b xs < val b ys := by omega
      simp [cmpN, this, h']
    · rw [cmpFrom_val hb hx hy, List.take_of_length_le (Nat.le_refl _), List.take_of_length_le (by omega)]
theorem cmpL_limbs (hb : 1 < b) (m n : Nat) : cmpL (limbs b m) (limbs b n) = cmpN m n := by
  rw [cmpL_val hb (limbs_lim hb _) (limbs_lim hb _) (limbs_can hb _) (limbs_can hb _), limbs_val hb, limbs_val hb]
end

/-! ### Sums, differences by appending -/
section
variable {b : Nat}
structure AddInv (b : Nat) (a bs o : List Nat) (c k : Nat) : Prop where
  len : o.length = k
  lim : Lim b o
  car : c ≤ 1
  sum : val b o + b ^ k * c = val b (a.take k) + val b (bs.take k)
theorem AddInv.start (a bs : List Nat) : AddInv b a bs [] 0 0 := ⟨rfl, Lim.nil, by omega, by simp⟩
theorem AddInv.step (hb : 1 < b) {a bs o : List Nat} {c k : Nat} (h : AddInv b a bs o c k) (hA : Lim b a) (hB : Lim b bs) :
    AddInv b a bs (o ++ [(c + a.getD k 0 + bs.getD k 0) % b]) ((c + a.getD k 0 + bs.getD k 0) / b) (k + 1) := by
  have hx := hA.getD (by omega) k
  have hy := hB.getD (by omega) k
  have hc := h.car
  refine ⟨by simp [h.len], h.lim.append (Lim.cons (Nat.mod_lt _ (by omega)) Lim.nil), ?_, ?_⟩
  · have : c + a.getD k 0 + bs.getD k 0 < 2 * b := by omega
    have := (Nat.div_lt_iff_lt_mul (by omega)).2 this
    omega
  · rw [val_append, h.len, val_take_getD a k, val_take_getD bs k]
    simp only [val_cons, val_nil, Nat.mul_zero, Nat.add_zero, Nat.pow_succ]
    rw [Nat.add_assoc, mul_mod_div, Nat.mul_add, Nat.mul_add]
    have := h.sum
    omega
theorem AddInv.last {a bs o : List Nat} {k : Nat} (h : AddInv b a bs o 0 k) (h1 : a.length ≤ k) (h2 : bs.length ≤ k) : val b o = val b a + val b bs := by
  have := h.sum
  rw [List.take_of_length_le h1, List.take_of_length_le h2] at this
  omega
structure DiffInv (b : Nat) (a bs o : List Nat) (c k : Nat) : Prop where
  len : o.length = k
  lim : Lim b o
  car : c ≤ 1
  sum : val b o + val b (bs.take k) = val b (a.take k) + b ^ k * c
theorem DiffInv.start (a bs : List Nat) : DiffInv b a bs [] 0 0 := ⟨rfl, Lim.nil, by omega, by simp⟩
theorem DiffInv.step (hb : 1 < b) {a bs o : List Nat} {c k : Nat} (h : DiffInv b a bs o c k) (hA : Lim b a) (hB : Lim b bs) :
    DiffInv b a bs (o ++ [(a.getD k 0 + b - bs.getD k 0 - c) % b]) (if a.getD k 0 < bs.getD k 0 + c then 1 else 0) (k + 1) := by
  have hx := hA.getD (by omega) k
  have hy := hB.getD (by omega) k
  have hc := h.car
  refine ⟨by simp [h.len], h.lim.append (Lim.cons (Nat.mod_lt _ (by omega)) Lim.nil), by split <;> omega, ?_⟩
  rw [val_append, h.len, val_take_getD a k, val_take_getD bs k]
  simp only [val_cons, val_nil, Nat.mul_zero, Nat.add_zero, Nat.pow_succ]
  have hd := congrArg (b ^ k * ·) (sub_digit hb hx hy hc)
  simp only [Nat.mul_add] at hd
  rw [← Nat.mul_assoc] at hd
  have := h.sum
  omega
theorem DiffInv.last {a bs o : List Nat} {c : Nat} (h : DiffInv b a bs o c a.length) (hl : bs.length ≤ a.length) (hle : val b bs ≤ val b a) : val b o = val b a - val b bs := by
  have h1 := h.sum
  rw [List.take_of_length_le (Nat.le_refl a.length), List.take_of_length_le hl] at h1
  have h2 := val_lt h.lim
  rw [h.len] at h2
  have hc := h.car
  rcases (show c = 0 ∨ c = 1 by omega) with rfl | rfl
  · omega
  · omega
end
/-! ### Shifts of short digits -/
theorem pow_DD (k : Nat) : DD ^ k = 2 ^ (16 * k) := by rw [DD_eq, ← Nat.pow_mul]
/-- To the left: q noughts, then k digits. -/
structure ShlInv (xs o : List Nat) (q r c k : Nat) : Prop where
  len : o.length = q + k
  lim : Lim DD o
  car : c < 2 ^ r
  sum : val DD o + DD ^ (q + k) * c = val DD (xs.take k) * 2 ^ (16 * q + r)
theorem ShlInv.start (xs : List Nat) (q r : Nat) : ShlInv xs (List.replicate q 0) q r 0 0 :=
  ⟨by simp, Lim.zeros DD_pos q, Nat.two_pow_pos r, by simp [val_zeros]⟩
theorem shl_car {x r c : Nat} (hx : x < DD) (hc : c < 2 ^ r) : (x * 2 ^ r + c) / DD < 2 ^ r := by
  rw [Nat.div_lt_iff_lt_mul DD_pos, Nat.mul_comm (2 ^ r)]
  calc x * 2 ^ r + c < x * 2 ^ r + 2 ^ r := by omega
    _ = (x + 1) * 2 ^ r := by rw [Nat.add_mul, Nat.one_mul]
    _ ≤ _ := Nat.mul_le_mul_right _ hx
theorem ShlInv.step {xs o : List Nat} {q r c k : Nat} (h : ShlInv xs o q r c k) (hX : Lim DD xs) :
    ShlInv xs (o ++ [(xs.getD k 0 * 2 ^ r + c) % DD]) q r ((xs.getD k 0 * 2 ^ r + c) / DD) (k + 1) := by
  refine ⟨by simp [h.len]; omega, h.lim.append (Lim.cons (Nat.mod_lt _ DD_pos) Lim.nil), shl_car (hX.getD DD_pos k) h.car, ?_⟩
  rw [val_append, h.len, val_take_getD xs k, Nat.add_mul, ← h.sum]
  simp only [val_cons, val_nil, Nat.mul_zero, Nat.add_zero]
  rw [show q + (k + 1) = q + k + 1 by omega, Nat.pow_succ, Nat.add_assoc, mul_mod_div, Nat.mul_add]
  have h2 : DD ^ (q + k) * (xs.getD k 0 * 2 ^ r) = DD ^ k * xs.getD k 0 * 2 ^ (16 * q + r) := by
    rw [Nat.pow_add 2, ← pow_DD, Nat.pow_add]
    simp only [Nat.mul_assoc, Nat.mul_left_comm]
  omega
theorem ShlInv.last {xs o : List Nat} {q r c : Nat} (h : ShlInv xs o q r c xs.length) (_hr : r < 16) :
    Lim DD (o ++ [c]) ∧ val DD (o ++ [c]) = val DD xs * 2 ^ (16 * q + r) := by
  have h1 : c < DD := Nat.lt_of_lt_of_le h.car (by rw [DD_eq]; exact Nat.pow_le_pow_right (by omega) (by omega))
  refine ⟨h.lim.append (Lim.cons h1 Lim.nil), ?_⟩
  rw [val_append, h.len]
  have := h.sum
  rw [List.take_of_length_le (Nat.le_refl xs.length)] at this
  simpa using this
/-- To the right: a digit, and the next one's lowest bits. -/
def rdigit (x y r : Nat) : Nat := (x + y * DD) / 2 ^ r % DD
theorem rdigit_parts (x y r : Nat) (hx : x < DD) (hr : r < 16) : rdigit x y r * 2 ^ r + x % 2 ^ r = x + DD * (y % 2 ^ r) := by
  unfold rdigit
  have hB : DD = 2 ^ r * 2 ^ (16 - r) := by rw [DD_eq, ← Nat.pow_add]; congr 1; omega
  have h1 : (x + y * DD) / 2 ^ r = x / 2 ^ r + y * 2 ^ (16 - r) := by
    conv => lhs; rw [hB, Nat.mul_left_comm, Nat.add_mul_div_left _ _ (Nat.two_pow_pos r)]
  have h2 := Nat.mod_add_div x (2 ^ r)
  have h3 : x / 2 ^ r < 2 ^ (16 - r) := by
    rw [Nat.div_lt_iff_lt_mul (Nat.two_pow_pos _), Nat.mul_comm, ← hB]; exact hx
  have h4 : (x / 2 ^ r + y * 2 ^ (16 - r)) % DD = x / 2 ^ r + (y % 2 ^ r) * 2 ^ (16 - r) := by
    have h5 := Nat.mod_add_div y (2 ^ r)
    have h6 : x / 2 ^ r + y * 2 ^ (16 - r) = (x / 2 ^ r + (y % 2 ^ r) * 2 ^ (16 - r)) + DD * (y / 2 ^ r) := by
      conv => lhs; rw [← h5]
      conv => rhs; rw [hB]
      rw [Nat.add_mul, Nat.mul_right_comm (2 ^ r)]
      omega
    rw [h6, Nat.add_mul_mod_self_left, Nat.mod_eq_of_lt]
    have h7 : y % 2 ^ r < 2 ^ r := Nat.mod_lt _ (Nat.two_pow_pos _)
    have h8 : (y % 2 ^ r + 1) * 2 ^ (16 - r) ≤ 2 ^ r * 2 ^ (16 - r) := Nat.mul_le_mul_right _ h7
    rw [← hB, Nat.add_mul, Nat.one_mul] at h8
    omega
  rw [h1, h4, Nat.add_mul, Nat.mul_assoc, ← Nat.pow_add, Nat.sub_add_cancel (by omega), ← DD_eq, Nat.mul_comm (x / _), Nat.mul_comm DD]
  omega
/-- k digits from place q on. -/
structure ShrInv (xs o : List Nat) (r k : Nat) : Prop where
  len : o.length = k
  lim : Lim DD o
  sum : val DD o * 2 ^ r + xs.getD 0 0 % 2 ^ r = val DD (xs.take k) + DD ^ k * (xs.getD k 0 % 2 ^ r)
theorem ShrInv.start (xs : List Nat) (r : Nat) : ShrInv xs [] r 0 := ⟨rfl, Lim.nil, by simp⟩
theorem ShrInv.step {xs o : List Nat} {r k : Nat} (h : ShrInv xs o r k) (hX : Lim DD xs) (hr : r < 16) :
    ShrInv xs (o ++ [rdigit (xs.getD k 0) (xs.getD (k + 1) 0) r]) r (k + 1) := by
  refine ⟨by simp [h.len], h.lim.append (Lim.cons (Nat.mod_lt _ DD_pos) Lim.nil), ?_⟩
  rw [val_append, h.len, val_take_getD xs k]
  simp only [val_cons, val_nil, Nat.mul_zero, Nat.add_zero]
  have h1 := h.sum
  have h2 := congrArg (DD ^ k * ·) (rdigit_parts (xs.getD k 0) (xs.getD (k + 1) 0) r (hX.getD DD_pos k) hr)
  simp only [Nat.mul_add] at h2
  rw [Nat.add_mul, Nat.pow_succ]
  simp only [Nat.mul_assoc] at h2 ⊢
  omega
theorem ShrInv.last {xs o : List Nat} {r : Nat} (h : ShrInv xs o r xs.length) : val DD o = val DD xs / 2 ^ r := by
  have h1 := h.sum
  rw [List.take_of_length_le (Nat.le_refl xs.length)] at h1
  have h2 : xs.getD xs.length 0 = 0 := by simp [List.getD_eq_getElem?_getD]
  rw [h2, Nat.zero_mod, Nat.mul_zero, Nat.add_zero] at h1
  rw [← h1, Nat.mul_comm, Nat.mul_add_div (Nat.two_pow_pos r), Nat.div_eq_of_lt (Nat.mod_lt _ (Nat.two_pow_pos r))]
  rfl
/-! ### The quotient bit by bit -/
/-- The bits from place i on are done: quotient Q (of those), rest R. -/
structure DivInv (A B Q R i : Nat) : Prop where
  sum : A / 2 ^ i = Q * B + R
  rest : R < B
theorem DivInv.start {A B i : Nat} (h : A < 2 ^ i) (hB : 0 < B) : DivInv A B 0 0 i := ⟨by rw [Nat.div_eq_of_lt h]; omega, hB⟩
theorem DivInv.last {A B Q R : Nat} (h : DivInv A B Q R 0) : Q = A / B ∧ R = A % B := by
  have h1 := h.sum
  have h2 := h.rest
  simp only [Nat.pow_zero, Nat.div_one] at h1
  rw [h1, Nat.mul_comm]
  exact ⟨by rw [Nat.mul_add_div (by omega), Nat.div_eq_of_lt h2]; rfl, by rw [Nat.mul_add_mod, Nat.mod_eq_of_lt h2]⟩
/-! ### The root bit by bit -/
structure RootInv (a r i : Nat) : Prop where
  le : r * r ≤ a
  gt : a < (r + 2 ^ i) * (r + 2 ^ i)
theorem RootInv.hi {a r i : Nat} (h : RootInv a r (i + 1)) (ht : (r + 2 ^ i) * (r + 2 ^ i) ≤ a) : RootInv a (r + 2 ^ i) i := by
  refine ⟨ht, ?_⟩
  rw [Nat.add_assoc, ← Nat.two_mul, ← Nat.pow_succ']
  exact h.gt
theorem RootInv.lo {a r i : Nat} (h : RootInv a r (i + 1)) (ht : ¬ (r + 2 ^ i) * (r + 2 ^ i) ≤ a) : RootInv a r i := ⟨h.le, by omega⟩
theorem RootInv.last {a r : Nat} (h : RootInv a r 0) : r = nroot a := (nroot_of h.le h.gt).symm
theorem RootInv.start {a : Nat} : RootInv a 0 ((blen a + 1) / 2 + 1) := by
  refine ⟨by omega, ?_⟩
  rw [Nat.zero_add, ← Nat.pow_add]
  exact Nat.lt_of_lt_of_le (blen_lt_pow a) (Nat.pow_le_pow_right (by omega) (by omega))
end Go.Proofs.Ytpkfjfpknbhekaa.Pl
