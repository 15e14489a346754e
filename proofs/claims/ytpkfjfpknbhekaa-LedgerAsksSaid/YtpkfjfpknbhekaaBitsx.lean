/- Contracts of package math/bits: lengths, lowest bits, products, sums with carry. Contracts of package nat, part A: what only reads. Contracts of package nat, part B: lengths, lowest bits. Contracts of package nat, part C: copies, shifts. -/
import Derived.Test.YtpkfjfpknbhekaaKitx
import Derived.Test.YtpkfjfpknbhekaaLenx
import Derived.Lib.BitFns
import Derived.Lib.Mul64
import Derived.Lib.TrailingZeros
import Derived.Shelf.Spec.BitsCarry
import Derived.Shelf.Spec.TrailingZeros
import Derived.Shelf.Bits.Mul64
namespace Go.Proofs.Ytpkfjfpknbhekaa
open Go.RowKit Pl

theorem bitLen_eq {x : Nat} (h : x < 2 ^ 64) : Lib.bitLen x = blen x := by
  have key : ∀ k, k ≤ 64 → (Lib.bitLen x ≤ k ↔ x < 2 ^ k) := by
    intro k hk
    constructor
    · intro hb
      rcases Nat.lt_or_ge x (2 ^ k) with h' | h'
      · exact h'
      · exfalso
        rw [Lib.bitLen_shift k x h' h] at hb
        have h0 : Lib.bitLen (x / 2 ^ k) = 0 := by omega
        have h1 : 0 < x / 2 ^ k := Nat.div_pos h' (Nat.two_pow_pos k)
        unfold Lib.bitLen at h0
        rw [show (64 : Nat) = 63 + 1 from rfl, Lib.bitLenAux, if_neg (by omega)] at h0
        omega
    · intro hx
      exact Lib.bitLen_le x k hk hx
  have h1 : blen x ≤ 64 := blen_le.2 h
  have h2 : Lib.bitLen x ≤ 64 := (key 64 (Nat.le_refl _)).2 h
  refine Nat.le_antisymm ((key _ h1).2 (blen_lt_pow x)) ?_
  exact blen_le.2 ((key _ h2).1 (Nat.le_refl _))

/-- math/bits.LeadingZeros64, over the plain length. -/
theorem lz_any (x : Nat) (hx : x < BB) (w : World) :
    Calls Try.prog 100 #[.int .u64 (x : Int)] w fun e w' => e = .returned (.int .i64 (64 - (blen x : Int))) ∧ w = w' := by
  have h1 : (x : Int) ≤ 18446744073709551615 := by unfold BB at hx; omega
  have l : Lib.bitLen x ≤ 64 := Lib.bitLen_le _ 64 (by omega) (by omega)
  have hb : Lib.bitLen x = blen x := bitLen_eq (by unfold BB at hx; omega)
  rw [← hb]
  clear hb
  go_enter Try.func100, Try.ntmps100
  go_wp2_with (go_at_call 104; refine (len64_int x _ (by omega) h1).mono ?_; rintro e w' ⟨rfl, rfl⟩)
  go_ret
  exact ⟨rfl, rfl⟩

/-! Shifts and joins of words, as the walk spells them. -/
theorem wrap_shl (x r : Nat) : IntKind.u64.wrap ((x : Int) * 2 ^ r) = ((x * 2 ^ r % BB : Nat) : Int) := by
  rw [IntKind.wrap_u64]
  unfold BB
  rw [Int.natCast_emod, Int.natCast_mul, Int.natCast_pow]
  rfl
theorem or_lo {o x r : Nat} (ho : o < 2 ^ r) (hr : r < 64) : bits .or .u64 (o : Int) (IntKind.u64.wrap ((x : Int) * 2 ^ r)) = ((o + x * 2 ^ r % BB : Nat) : Int) := by
  have h1 : o < 18446744073709551616 := Nat.lt_of_lt_of_le ho (Nat.pow_le_pow_right (by omega) (show r ≤ 64 by omega))
  have h2 : x * 2 ^ r % BB < 18446744073709551616 := Nat.mod_lt _ BB_pos
  rw [wrap_shl, u64_or_nat _ _ h1 h2, Nat.or_comm, nat_join r _ _ (shl_lo_mod x r hr) ho, Nat.add_comm]
theorem shr_hi {x r : Nat} (hr : r < 64) : (x : Int) / 2 / 2 ^ (63 - r) = ((x / 2 ^ (64 - r) : Nat) : Int) := by
  rw [Int.natCast_ediv, Int.natCast_pow, show 64 - r = (63 - r) + 1 by omega, Int.pow_succ, Int.mul_comm, ← Int.ediv_ediv_of_nonneg (by omega)]
  rfl
theorem or_zero_left {y : Nat} (hy : y < BB) : bits .or .u64 (0 : Int) (y : Int) = (y : Int) := by
  have h := u64_or_nat 0 y (by omega) hy
  rw [Nat.zero_or] at h
  exact h

end Go.Proofs.Ytpkfjfpknbhekaa
namespace Go.Proofs.Ytpkfjfpknbhekaa
open Go.RowKit Pl

/-- nat.May. -/
def mayN (xs : List Nat) : Bool := decide (xs.length = 0) || (decide (xs.length ≤ 64) && !decide (nth xs (xs.length - 1) = 0))

/-- nat.sign. -/
def sgnB (b : Bool) : Int := if b then -1 else 1
set_option maxHeartbeats 400000 in
theorem sign_any (b : Bool) (w : World) : Calls Try.prog 101 #[.bool b] w fun e w' => e = .returned (.int .i64 (sgnB b)) ∧ w = w' := by
  cases b <;> (go_enter Try.func101, Try.ntmps101; go_wp2; go_ret; exact ⟨rfl, rfl⟩)

set_option maxHeartbeats 400000 in
theorem may_any (A : Option Addr) (n c : Nat) (xs : List Nat) (w : World) (h : RdN .u64 w A n c xs) :
    Calls Try.prog 76 #[.slice A n c] w fun e w' => e = .returned (.bool (mayN xs)) ∧ w = w' := by
  obtain ⟨hlen, hcap, hmax, hat⟩ := h
  unfold maxLen at hmax
  by_cases h0 : n = 0
  · subst h0
    have hres : mayN xs = true := by simp [mayN, hlen]
    go_enter Try.func76, Try.ntmps76
    go_wp2
    go_ret
    exact ⟨ret_bool hres.symm, rfl⟩
  · obtain ⟨b, off, rfl, hb, hc⟩ := hat (by omega)
    have hcell := hc (n - 1) (by omega)
    have hz : ((n : Int) == 0) = false := by simp; omega
    clear hat
    subst hlen
    by_cases h1 : xs.length ≤ 64
    · have hi : ((xs.length : Int) - 1).toNat = xs.length - 1 := by omega
      go_enter Try.func76, Try.ntmps76
      go_wp2
      go_ret
      refine ⟨ret_bool ?_, rfl⟩
      have h0' : xs ≠ [] := by intro e; rw [e] at h0; exact h0 rfl
      rw [Bool.eq_iff_iff]
      simp [mayN, h0', h1, bne]
    · go_enter Try.func76, Try.ntmps76
      go_wp2
      go_ret
      refine ⟨ret_bool ?_, rfl⟩
      have h0' : xs ≠ [] := by intro e; rw [e] at h0; exact h0 rfl
      simp [mayN, h0', h1]

/-- One step of trim, seen from the end. -/
theorem trimL_step_zero {xs : List Nat} {m : Nat} (hm : m + 1 ≤ xs.length) (h : nth xs m = 0) : trimL (xs.take (m + 1)) = trimL (xs.take m) := by
  have : xs.take (m + 1) = xs.take m ++ [0] := by
    rw [List.take_succ_eq_append_getElem (by omega)]
    have h2 : xs[m]'(by omega) = 0 := by simpa [nth, List.getD_eq_getElem?_getD, show m < xs.length by omega] using h
    rw [h2]
  rw [this, trimL_snoc_zero]
theorem trimL_step_done {xs : List Nat} {m : Nat} (hm : m + 1 ≤ xs.length) (h : nth xs m ≠ 0) : (trimL (xs.take (m + 1))).length = m + 1 := by
  have hc : Cnl (xs.take (m + 1)) := by
    have : xs.take (m + 1) = xs.take m ++ [nth xs m] := by
      rw [List.take_succ_eq_append_getElem (by omega)]
      simp [nth, List.getD_eq_getElem?_getD, show m < xs.length by omega]
    unfold Cnl
    rw [this, List.getLast?_concat]
    simpa using h
  rw [trimL_of_can hc, List.length_take]
  omega

set_option maxHeartbeats 400000 in
theorem trim_any (A : Option Addr) (n c : Nat) (xs : List Nat) (w : World) (h : RdN .u64 w A n c xs) :
    Calls Try.prog 102 #[.slice A n c] w fun e w' => e = .returned (.slice A (trimL xs).length c) ∧ w = w' := by
  obtain ⟨hlen, hcap, hmax, hat⟩ := h
  unfold maxLen at hmax
  subst hlen
  go_enter Try.func102, Try.ntmps102
  go_wp2
  go_loop [0] (fun a => ∃ m : Nat, m ≤ xs.length ∧ a = .slice A m c ∧ Hid (trimL (xs.take m) = trimL xs)) (fun a => match a with | .slice _ m _ => m | _ => 0)
  case atStart => exact ⟨xs.length, Nat.le_refl _, rfl, by rw [List.take_length]; exact hide rfl⟩
  case round =>
    obtain ⟨m, hm, rfl, hT⟩ := hrel
    rcases Nat.eq_zero_or_pos m with rfl | hpos
    · go_wp2
      go_ret
      have h2 := hT.out
      rw [← h2]
      exact ⟨rfl, rfl⟩
    · obtain ⟨k, rfl⟩ : ∃ k, m = k + 1 := ⟨m - 1, by omega⟩
      obtain ⟨b, off, rfl, hb, hc⟩ := hat (by omega)
      have hcell := hc k (by omega)
      by_cases hk : nth xs k = 0
      · have e1 : ((nth xs k : Int) == 0) = true := by simp [hk]
        have e2 := hide (trimL_step_zero hm hk)
        clear hat
        go_wp2
        go_round
        case rel => exact ⟨k, by omega, by go_num, hide (e2.out.symm.trans hT.out)⟩
        case measure => simp
      · have e1 : ((nth xs k : Int) == 0) = false := by simp; omega
        have e2 := hide (trimL_step_done hm hk)
        clear hat
        go_wp2
        go_ret
        have h2 := e2.out
        rw [hT.out] at h2
        rw [h2]
        exact ⟨rfl, rfl⟩

theorem RdN.cellW {K : IntKind} {w wr : World} {b off n : Nat} {xs : List Nat} (hc : ∀ k, k < n → w.cell? ⟨b, off + k, none⟩ = some (.int K (nth xs k : Nat))) (hb : b < w.heap.size) (hw : Below w.heap.size w wr) (k : Nat) (hk : k < n) :
    wr.cell? ⟨b, off + k, none⟩ = some (.int K (nth xs k : Nat)) := (hw.cell (p := ⟨b, off + k, none⟩) hb).trans (hc k hk)

theorem cmpFrom_lt {xs ys : List Nat} {k : Nat} (h : nth xs k < nth ys k) : cmpFrom xs ys (k + 1) = -1 := by simp only [cmpFrom]; exact if_pos h
theorem cmpFrom_gt {xs ys : List Nat} {k : Nat} (h : nth ys k < nth xs k) : cmpFrom xs ys (k + 1) = 1 := by
  simp only [cmpFrom]
  have h' : ys.getD k 0 < xs.getD k 0 := h
  rw [if_neg (by omega), if_pos h']
theorem cmpFrom_eq {xs ys : List Nat} {k : Nat} (h : nth xs k = nth ys k) : cmpFrom xs ys (k + 1) = cmpFrom xs ys k := by
  simp only [cmpFrom]
  have h' : xs.getD k 0 = ys.getD k 0 := h
  rw [if_neg (by omega), if_neg (by omega)]

set_option maxHeartbeats 400000 in
theorem order_any (A : Option Addr) (n c : Nat) (xs : List Nat) (B : Option Addr) (m d : Nat) (ys : List Nat) (w : World) (h : RdN .u64 w A n c xs) (k : RdN .u64 w B m d ys) :
    Calls Try.prog 94 #[.slice A n c, .slice B m d] w fun e w' => e = .returned (.int .i64 (cmpL xs ys)) ∧ Below w.heap.size w w' := by
  obtain ⟨hlen, hcap, hmax, hat⟩ := h
  obtain ⟨klen, kcap, kmax, kat⟩ := k
  unfold maxLen at hmax kmax
  subst hlen klen
  by_cases hl : xs.length = ys.length
  · have hres : Hid (cmpL xs ys = cmpFrom xs ys xs.length) := by unfold cmpL; rw [if_neg (by omega), if_neg (by omega)]; exact hide rfl
    have el : ((xs.length : Int) == (ys.length : Int)) = true := by simp [hl]
    have el' : ((xs.length : Int) != (ys.length : Int)) = false := by simp [hl]
    have hl' : ys.length ≤ xs.length ∧ xs.length ≤ ys.length := by omega
    clear hl
    obtain ⟨hl1, hl2⟩ := hl'
    go_enter Try.func94, Try.ntmps94
    go_wp2
    go_loopw [5] (fun i wr => ∃ q : Nat, q ≤ xs.length ∧ i = .int .i64 ((q : Int) - 1) ∧ Hid (cmpFrom xs ys q = cmpL xs ys) ∧ Below w.heap.size w wr) (fun i _ => (intOf i + 1).toNat)
    case atStart => exact ⟨xs.length, Nat.le_refl _, rfl, hide hres.out.symm, Below.refl _ _⟩
    case round =>
      obtain ⟨q, hq, rfl, hT, hbw⟩ := hrel
      rcases Nat.eq_zero_or_pos q with rfl | hpos
      · go_wp2
        go_ret
        exact ⟨ret_int hT.out, hbw⟩
      · obtain ⟨j, rfl⟩ : ∃ j, q = j + 1 := ⟨q - 1, by omega⟩
        obtain ⟨b, off, rfl, hb, hc⟩ := hat (by omega)
        obtain ⟨b2, off2, rfl, hb2, hc2⟩ := kat (by omega)
        have hcell := RdN.cellW hc hb hbw j (by omega)
        have hcell2 := RdN.cellW hc2 hb2 hbw j (by omega)
        clear hat kat hc hc2
        have ej : (((j + 1 : Nat) : Int) - 1) = (j : Int) := by omega
        rw [ej]
        clear ej
        have i1 : (0 : Int) ≤ (j : Int) := by omega
        have i2 : (j : Int) < (xs.length : Int) := by omega
        have i3 : (j : Int) < (ys.length : Int) := by omega
        rcases Nat.lt_trichotomy (nth xs j) (nth ys j) with hlt | heq | hgt
        · have e1 : ((nth xs j : Int) != (nth ys j : Int)) = true := by rw [bne_iff_ne]; omega
          have e2 : decide (nth xs j < nth ys j) = true := by simp; omega
          have hT2 := hide ((cmpFrom_lt hlt).symm.trans hT.out)
          clear hT
          go_wp2_with fail
          go_quiet (fail)
          go_wp2_with fail
          go_quiet ((go_at_call 101; exact quiet2 (sign_any _ _)))
          go_wp2
          go_ret
          exact ⟨ret_int (Eq.trans rfl hT2.out), by repeat (first | assumption | refine below_drewN ?_ _)⟩
        · have e1 : ((nth xs j : Int) != (nth ys j : Int)) = false := by rw [heq]; simp
          have hT2 := hide ((cmpFrom_eq heq).symm.trans hT.out)
          clear hT heq
          go_wp2_with fail
          go_quiet (fail)
          go_wp2
          go_roundw
          case rel => exact ⟨j, by omega, by go_num, hT2, by repeat (first | assumption | refine below_drewN ?_ _)⟩
          case measure => simp [intOf]
        · have e1 : ((nth xs j : Int) != (nth ys j : Int)) = true := by rw [bne_iff_ne]; omega
          have e2 : decide (nth xs j < nth ys j) = false := by simp; omega
          have hT2 := hide ((cmpFrom_gt hgt).symm.trans hT.out)
          clear hT
          go_wp2_with fail
          go_quiet (fail)
          go_wp2_with fail
          go_quiet ((go_at_call 101; exact quiet2 (sign_any _ _)))
          go_wp2
          go_ret
          exact ⟨ret_int (Eq.trans rfl hT2.out), by repeat (first | assumption | refine below_drewN ?_ _)⟩
  · have el : ((xs.length : Int) != (ys.length : Int)) = true := by rw [bne_iff_ne]; omega
    by_cases hl2 : xs.length < ys.length
    · have hres : Hid (cmpL xs ys = -1) := by unfold cmpL; rw [if_pos hl2]; exact hide rfl
      go_enter Try.func94, Try.ntmps94
      go_wp2_with (go_at_call 101; refine (sign_any _ _).mono ?_; rintro e w' ⟨rfl, rfl⟩)
      go_ret
      exact ⟨ret_int (Eq.trans (by simp [sgnB, *]) hres.out.symm), Below.refl _ _⟩
    · have hres : Hid (cmpL xs ys = 1) := by unfold cmpL; rw [if_neg hl2, if_pos (by omega)]; exact hide rfl
      go_enter Try.func94, Try.ntmps94
      go_wp2_with (go_at_call 101; refine (sign_any _ _).mono ?_; rintro e w' ⟨rfl, rfl⟩)
      go_ret
      exact ⟨ret_int (Eq.trans (by simp [sgnB, *]) hres.out.symm), Below.refl _ _⟩
end Go.Proofs.Ytpkfjfpknbhekaa
namespace Go.Proofs.Ytpkfjfpknbhekaa
open Go.RowKit Pl

/-- nat.Size: of limbs without noughts at their end, the number of bits. -/
def sizeN (xs : List Nat) : Nat := if xs.length = 0 then 0 else 64 * (xs.length - 1) + blen (nth xs (xs.length - 1))
theorem sizeN_can {xs : List Nat} (hl : Lim BB xs) (hc : Cnl xs) : sizeN xs = blen (val BB xs) := by
  unfold sizeN
  split
  · rename_i h
    rw [List.length_eq_zero_iff.1 h]
    rfl
  · rename_i h
    have hne : xs ≠ [] := by intro e; rw [e] at h; exact h rfl
    have h1 := List.dropLast_concat_getLast hne
    have h2 : xs.getLast hne ≠ 0 := by
      intro e
      apply hc
      rw [List.getLast?_eq_some_getLast hne, e]
    have h3 := blen_limbs (w := 64) (xs := xs.dropLast) (x := xs.getLast hne) (by rw [← BB_eq]; intro y hy; exact hl y ((List.dropLast_sublist xs).subset hy)) h2
    rw [h1, List.length_dropLast] at h3
    rw [BB_eq, h3, nth, List.getD_eq_getElem?_getD, ← List.getLast?_eq_getElem?, List.getLast?_eq_some_getLast hne]
    rfl

set_option maxHeartbeats 400000 in
theorem size_any (A : Option Addr) (n c : Nat) (xs : List Nat) (w : World) (h : RdN .u64 w A n c xs) (hl : Lim BB xs) (hn : n ≤ 1000000) :
    Calls Try.prog 93 #[.slice A n c] w fun e w' => e = .returned (.int .i64 (sizeN xs : Nat)) ∧ w = w' := by
  obtain ⟨hlen, hcap, hmax, hat⟩ := h
  unfold maxLen at hmax
  subst hlen
  by_cases h0 : xs.length = 0
  · have e0 : ((xs.length : Int) == 0) = true := by simp [h0]
    have hres : Hid (sizeN xs = 0) := by unfold sizeN; rw [if_pos h0]; exact hide rfl
    clear h0
    go_enter Try.func93, Try.ntmps93
    go_wp2
    go_ret
    exact ⟨ret_int (by rw [hres.out]; rfl), rfl⟩
  · obtain ⟨b, off, rfl, hb, hc⟩ := hat (by omega)
    have e0 : ((xs.length : Int) == 0) = false := beq_eq_false_iff_ne.2 (by omega)
    have hcell := hc (xs.length - 1) (by omega)
    have hx : nth xs (xs.length - 1) < BB := hl.getD BB_pos (xs.length - 1)
    have hb64 : blen (nth xs (xs.length - 1)) ≤ 64 := blen_le.2 (by rw [← BB_eq]; exact hx)
    have hres : Hid ((sizeN xs : Int) = 64 * xs.length - (64 - (blen (nth xs (xs.length - 1)) : Int))) := by unfold sizeN Hid; rw [if_neg h0]; omega
    have hp : 1 ≤ xs.length := by omega
    have i0 : ((xs.length : Int) - 1).toNat = xs.length - 1 := by omega
    clear hat hc h0
    go_enter Try.func93, Try.ntmps93
    go_wp2_with (go_at_call 100; refine (lz_any _ hx _).mono ?_; rintro e w' ⟨rfl, rfl⟩)
    go_ret
    exact ⟨ret_int hres.out.symm, rfl⟩

end Go.Proofs.Ytpkfjfpknbhekaa
namespace Go.Proofs.Ytpkfjfpknbhekaa
open Go.RowKit Pl

theorem info_u64 : (Try.prog.info? 51).map (fun i => (i.zero, i.size, i.bytes)) = some (some (.int .u64 0), 1, 8) := by kernel_rfl
theorem made_u64 (n : Nat) : (madeCells #[Value.int .u64 0] n).toList = U .u64 (List.replicate n 0) := by
  rw [← U_zeros]
  exact toList_madeCells_one _ _

set_option maxRecDepth 100000 in
set_option maxHeartbeats 1000000 in
theorem left_any (A : Option Addr) (n c : Nat) (xs : List Nat) (m : Nat) (w : World) (h : RdN .u64 w A n c xs) (hl : Lim BB xs) (hn : n ≤ 100000) (hm : m ≤ 1000000) :
    Calls Try.prog 95 #[.slice A n c, .int .i64 (m : Int)] w fun e w' => ∃ A' n' c', e = .returned (.slice A' n' c') ∧ RdN .u64 w' A' n' c' (limbs BB (val BB xs * 2 ^ m)) ∧ Below w.heap.size w w' := by
  obtain ⟨hlen, hcap, hmax, hat⟩ := h
  unfold maxLen at hmax
  subst hlen
  obtain ⟨i0, hi, hz0, hz1, hz2⟩ := info_parts info_u64
  by_cases h0 : xs.length = 0
  · have e0 : ((xs.length : Int) == 0) = true := by simp [h0]
    have hres : Hid (limbs BB (val BB xs * 2 ^ m) = []) := by
      rw [List.length_eq_zero_iff.1 h0]
      unfold Hid
      rw [val_nil, Nat.zero_mul]
      rfl
    go_enter Try.func95, Try.ntmps95
    go_wp2
    go_ret
    exact ⟨_, _, _, rfl, by rw [hres.out]; exact RdN.nil _ _, Below.refl _ _⟩
  · obtain ⟨b, off, rfl, hb, hc⟩ := hat (by omega)
    have e0 : ((xs.length : Int) == 0) = false := beq_eq_false_iff_ne.2 (by omega)
    clear hat
    go_enter Try.func95, Try.ntmps95
    go_wp2_with (at_make; refine wpList_make_full _ rfl _ _ 22 rfl w.heap.size 51 i0 _ 1 Try.underlying22 hi hz0 hz1 .i64 .i64 _ _ (m / 64 + xs.length + 1) rfl rfl ?c1 ?c2 ?c3 ?c4 ?c5 ?_)
    case c1 => omega
    case c2 => omega
    case c3 => rw [hz2]; omega
    case c4 => unfold maxLen; omega
    case c5 => exact Nat.le_refl _
    intro w1 hown1 hg1
    rw [made_u64] at hown1
    have hb1 : Below w.heap.size w w1 := (Below.refl _ _).grown hg1 (Nat.le_refl _) (by simp)
    go_wp2
    go_loopw [20] (fun i wr => ∃ (k : Nat) (o : List Nat), k ≤ xs.length ∧ i = .int .i64 (k : Int) ∧ Hid (LeftInv xs o (m / 64) (m % 64) k) ∧
      wr.ownsRow w.heap.size 51 1 (.slice (some ⟨w.heap.size, 0, none⟩) (m / 64 + xs.length + 1) (m / 64 + xs.length + 1)) (m / 64 + xs.length + 1) (U .u64 o) ∧ Below w.heap.size w wr) (fun i _ => xs.length - (intOf i).toNat)
    case atStart => exact ⟨0, _, Nat.zero_le _, rfl, hide (LeftInv.start xs (m / 64) (m % 64)), hown1, hb1⟩
    case round =>
      obtain ⟨k, o, hk, rfl, hinv, hown, hbw⟩ := hrel
      rcases Nat.lt_or_ge k xs.length with hlt | hge
      · have hcell := RdN.cellW hc hb hbw k hlt
        have hA := own_cell hown (m / 64 + k) (by omega)
        have hB := own_cell hown (m / 64 + k + 1) (by omega)
        have fA := hown.frozenAt (m / 64 + k)
        have fB := hown.frozenAt (m / 64 + k + 1)
        go_wp2
        go_roundw
        case rel =>
          have hi := hinv.out
          have e1 := or_lo (x := nth xs k) hi.top (Nat.mod_lt m (by omega))
          have ez : nth o (m / 64 + k + 1) = 0 := hi.zero _ (by omega)
          have e2 := shr_hi (x := nth xs k) (Nat.mod_lt m (show 64 > 0 by omega))
          have e3 : nth xs k / 2 ^ (64 - m % 64) < BB := Nat.lt_of_le_of_lt (Nat.div_le_self _ _) (hl.getD BB_pos k)
          refine ⟨k + 1, _, by omega, by go_num, hide (hi.step hl (Nat.mod_lt m (by omega)) hlt), ?_, ?_⟩
          · have e1' : bits .or .u64 (nth o (m / 64 + k) : Int) (IntKind.u64.wrap ((nth xs k : Int) * 2 ^ (m % 64))) = ((nth o (m / 64 + k) + nth xs k * 2 ^ (m % 64) % BB : Nat) : Int) := e1
            rw [e1', ez, e2, Int.natCast_zero, or_zero_left e3]
            exact own_set (own_set hown _ _) _ _
          · exact (hbw.setCell (Nat.le_refl _) _).setCell (Nat.le_refl _) _
        case measure => simp [intOf]; omega
      · obtain rfl : k = xs.length := by omega
        have hi := hinv.out
        have hrd := RdN.of_own hown
        have hv := hide (hi.last)
        have hlo := hi.lim
        clear hi hinv
        go_wp2_with (go_at_call 102; refine (trim_any _ _ _ _ _ hrd).mono ?_; rintro e w' ⟨rfl, rfl⟩)
        go_ret
        refine ⟨_, _, _, rfl, ?_, hbw⟩
        have h2 := hrd.take (trimL_len o |> fun h => by rw [own_len hown] at h; exact h)
        rw [← trimL_take, trimL_limbs BB_gt1 hlo, hv.out, show 64 * (m / 64) + m % 64 = m by omega] at h2
        rw [trimL_limbs BB_gt1 hlo, hv.out, show 64 * (m / 64) + m % 64 = m by omega]
        exact h2

theorem left_int (A : Option Addr) (n c : Nat) (xs : List Nat) (k : Int) (w : World) (h : RdN .u64 w A n c xs) (hl : Lim BB xs) (hn : n ≤ 100000) (hk0 : 0 ≤ k) (hk : k ≤ 1000000) :
    Calls Try.prog 95 #[.slice A n c, .int .i64 k] w fun e w' => ∃ A' n' c', e = .returned (.slice A' n' c') ∧ RdN .u64 w' A' n' c' (limbs BB (val BB xs * 2 ^ k.toNat)) ∧ Below w.heap.size w w' := by
  obtain ⟨m, rfl⟩ := Int.eq_ofNat_of_zero_le hk0
  rw [Int.toNat_natCast]
  exact left_any A n c xs m w h hl hn (by omega)
end Go.Proofs.Ytpkfjfpknbhekaa
