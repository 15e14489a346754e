/- Contracts of package math/bits: lengths, lowest bits, products, sums with carry. -/
import Derived.Test.YtaifjldpjkabjaaDoorKit
import Derived.Test.YtaifjldpjkabjaaDoorLen
import Derived.Lib.BitFns
import Derived.Lib.Mul64
import Derived.Lib.TrailingZeros
import Derived.Shelf.Spec.BitsCarry
import Derived.Shelf.Spec.TrailingZeros
import Derived.Shelf.Bits.Mul64
namespace Go.Proofs.YtaifjldpjkabjaaDoor
open Go.RowKit Pl

theorem bitLen_eq {x : Nat} (h : x < 2 ^ 64) : Lib.bitLen x = blen x := by
  have key : ∀ k, k ≤ 64 → (Lib.bitLen x ≤ k ↔ x < 2 ^ k) := by
    intro k hk
    constructor
    · intro hb
      rcases Nat.lt_or_ge x (2 ^ k) with h' | h'
      · exact h'
      · exfalso
        rw [Lib.bitLen_shift k x h' h] at hb
        have h0 : Lib.bitLen (x / 2 ^ k) = 0 := by omega
        have h1 : 0 < x / 2 ^ k := Nat.div_pos h' (Nat.two_pow_pos k)
        unfold Lib.bitLen at h0
        rw [show (64 : Nat) = 63 + 1 from rfl, Lib.bitLenAux, if_neg (by omega)] at h0
        omega
    · intro hx
      exact Lib.bitLen_le x k hk hx
  have h1 : blen x ≤ 64 := blen_le.2 h
  have h2 : Lib.bitLen x ≤ 64 := (key 64 (Nat.le_refl _)).2 h
  refine Nat.le_antisymm ((key _ h1).2 (blen_lt_pow x)) ?_
  exact blen_le.2 ((key _ h2).1 (Nat.le_refl _))

/-- math/bits.LeadingZeros64, over the plain length. -/
theorem lz_any (x : Nat) (hx : x < BB) (w : World) :
    Calls Tryd.prog 119 #[.int .u64 (x : Int)] w fun e w' => e = .returned (.int .i64 (64 - (blen x : Int))) ∧ w = w' := by
  have h1 : (x : Int) ≤ 18446744073709551615 := by unfold BB at hx; omega
  have l : Lib.bitLen x ≤ 64 := Lib.bitLen_le _ 64 (by omega) (by omega)
  have hb : Lib.bitLen x = blen x := bitLen_eq (by unfold BB at hx; omega)
  rw [← hb]
  clear hb
  go_enter Tryd.func119, Tryd.ntmps119
  go_wp2_with (go_at_call 127; refine (len64_int x _ (by omega) h1).mono ?_; rintro e w' ⟨rfl, rfl⟩)
  go_ret
  exact ⟨rfl, rfl⟩

/-- Where the table of lowest bits lies. -/
def TabAt (w : World) : Prop := ∀ j, j < Lib.deBruijn64tab.length → w.cell? ⟨0, j, none⟩ = some (.int .u8 (Lib.deBruijn64tab.getD j 0))

set_option maxHeartbeats 1000000 in
theorem tz_core (x k idx : Nat) (w : World) (hx0 : ((x : Int) == 0) = false)
    (key : IntKind.u64.wrap (bits BinOp.and IntKind.u64 (x : Int) (IntKind.u64.wrap (-(x : Int))) * 285870213051353865) / 288230376151711744 = (idx : Int))
    (hi : idx < 64) (hk : k < 64) (hcell : w.cell? ⟨0, idx, none⟩ = some (.int .u8 k)) :
    Calls Tryd.prog 120 #[.int .u64 x] w fun e w' => e = .returned (.int .i64 k) ∧ w = w' := by
  go_enter Tryd.func120, Tryd.ntmps120
  go_wp2_with (simp only [key])
  go_ret
  exact ⟨rfl, rfl⟩

theorem ctz_eq {x : Nat} (h0 : x ≠ 0) (h : x < 2 ^ 64) : Lib.ctz 64 x = tz x := by
  unfold Lib.ctz
  rw [if_neg h0]
  obtain ⟨m, hm, _⟩ := Lib.ctzFrom_spec 64 x (by omega) h
  exact (tz_of hm (by omega)).symm
/-- math/bits.TrailingZeros64 of a word above nought. -/
theorem tz_any (x : Nat) (hx0 : x ≠ 0) (hx : x < BB) (w : World) (hT : TabAt w) :
    Calls Tryd.prog 120 #[.int .u64 (x : Int)] w fun e w' => e = .returned (.int .i64 (tz x : Nat)) ∧ w = w' := by
  have hx' : x < 2 ^ 64 := by unfold BB at hx; omega
  have hx2 : x < 18446744073709551616 := hx'
  rw [← ctz_eq hx0 hx']
  obtain ⟨hlow, hk⟩ := Lib.lowest_bit 64 x hx0 hx'
  obtain ⟨hi, htab⟩ := Lib.deBruijn64_at _ hk
  have hcell := hT _ hi
  rw [htab] at hcell
  exact tz_core x _ _ w (by simp; omega) (tz64_key x _ hx2 hx0 hlow) hi hk hcell
theorem TabAt.below {w w' : World} (h : TabAt w) (hb : Below w.heap.size w w') : TabAt w' := by
  intro j hj
  have h1 := h j hj
  have hlt : 0 < w.heap.size := by
    rcases Nat.lt_or_ge 0 w.heap.size with h2 | h2
    · exact h2
    · simp [World.cell?, Array.getElem?_eq_none h2] at h1
  exact (hb.cell (p := ⟨0, j, none⟩) hlt).trans h1

set_option maxHeartbeats 1000000 in
/-- math/bits.Mul64. -/
theorem mul64_any (x y : Nat) (hx : x < BB) (hy : y < BB) (w : World) :
    Calls Tryd.prog 116 #[.int .u64 (x : Int), .int .u64 (y : Int)] w fun e w' => e = .returned (.tuple #[.int .u64 ((x * y / BB : Nat) : Int), .int .u64 ((x * y % BB : Nat) : Int)]) ∧ w = w' := by
  unfold BB at *
  obtain ⟨bd, bt, bw, hhi⟩ := Lib.mul64_hi x y hx hy
  have ba := Lib.half_mul_le (a := x / 4294967296) (b := y / 4294967296) (by omega) (by omega)
  have bb := Lib.half_mul_le (a := x / 4294967296) (b := y % 4294967296) (by omega) (by omega)
  have bc := Lib.half_mul_le (a := x % 4294967296) (b := y / 4294967296) (by omega) (by omega)
  have ba' : x / 4294967296 * (y / 4294967296) < 18446744073709551616 := by omega
  have bb' : x / 4294967296 * (y % 4294967296) < 18446744073709551616 := by omega
  have bc' : x % 4294967296 * (y / 4294967296) < 18446744073709551616 := by omega
  have bh1 : x / 4294967296 * (y / 4294967296) + (x / 4294967296 * (y % 4294967296) + x % 4294967296 * (y % 4294967296) / 4294967296) / 4294967296 < 18446744073709551616 := by omega
  have bh : x / 4294967296 * (y / 4294967296) + (x / 4294967296 * (y % 4294967296) + x % 4294967296 * (y % 4294967296) / 4294967296) / 4294967296 + ((x / 4294967296 * (y % 4294967296) + x % 4294967296 * (y % 4294967296) / 4294967296) % 4294967296 + x % 4294967296 * (y / 4294967296)) / 4294967296 < 18446744073709551616 := by
    rw [hhi, Nat.div_lt_iff_lt_mul (by omega)]
    have h1 : x * y ≤ 18446744073709551615 * 18446744073709551615 := Nat.mul_le_mul (by omega) (by omega)
    omega
  have H := hide hhi
  clear hhi
  go_enter Tryd.func116, Tryd.ntmps116
  go_wp2
  simp only [Mul64.maskN x hx, Mul64.maskN y hy, Mul64.divN, Mul64.mulN, Mul64.addN, Mul64.wrapN _ bd, Mul64.wrapN _ bb', Mul64.wrapN _ bt, Mul64.maskN _ bt, Mul64.wrapN _ bc', Mul64.wrapN _ bw, Mul64.wrapN _ ba', Mul64.wrapN _ bh1, Mul64.wrapN _ bh, Mul64.wrapM (x * y)]
  rw [H.out]
  go_ret2
  exact ⟨rfl, rfl⟩

/-- math/bits.Add64, Sub64: laws of the call. -/
theorem add64 (x y c : Nat) (hc : c ≤ 1) (w : World) : (callFunc 117 #[.int .u64 (x : Int), .int .u64 (y : Int), .int .u64 (c : Int)]).run Tryd.prog w =
    .ok (.value (.tuple #[.int .u64 (((x + y + c) % BB : Nat) : Int), .int .u64 (((x + y + c) / BB : Nat) : Int)])) w := by
  rw [run_callFunc_extern Tryd.func117 (by kernel_rfl) (by kernel_rfl) (by kernel_rfl) (e := add64Entry) (by kernel_rfl), run_add64 x y c (by omega) (by omega) (by omega) (by omega)]
  simp only [Result.andThen]
  unfold BB
  congr 5 <;> omega
theorem sub64 (x y b : Nat) (hb : b ≤ 1) (w : World) : (callFunc 122 #[.int .u64 (x : Int), .int .u64 (y : Int), .int .u64 (b : Int)]).run Tryd.prog w =
    .ok (.value (.tuple #[.int .u64 (((x + BB - y - b) % BB : Nat) : Int), .int .u64 ((if x < y + b then 1 else 0 : Nat) : Int)])) w := by
  rw [run_callFunc_extern Tryd.func122 (by kernel_rfl) (by kernel_rfl) (by kernel_rfl) (e := sub64Entry) (by kernel_rfl), run_sub64 x y b hb]
  rfl

/-! Shifts and joins of words, as the walk spells them. -/
theorem wrap_shl (x r : Nat) : IntKind.u64.wrap ((x : Int) * 2 ^ r) = ((x * 2 ^ r % BB : Nat) : Int) := by
  rw [IntKind.wrap_u64]
  unfold BB
  rw [Int.natCast_emod, Int.natCast_mul, Int.natCast_pow]
  rfl
theorem or_lo {o x r : Nat} (ho : o < 2 ^ r) (hr : r < 64) : bits .or .u64 (o : Int) (IntKind.u64.wrap ((x : Int) * 2 ^ r)) = ((o + x * 2 ^ r % BB : Nat) : Int) := by
  have h1 : o < 18446744073709551616 := Nat.lt_of_lt_of_le ho (Nat.pow_le_pow_right (by omega) (show r ≤ 64 by omega))
  have h2 : x * 2 ^ r % BB < 18446744073709551616 := Nat.mod_lt _ BB_pos
  rw [wrap_shl, u64_or_nat _ _ h1 h2, Nat.or_comm, nat_join r _ _ (shl_lo_mod x r hr) ho, Nat.add_comm]
theorem shr_hi {x r : Nat} (hr : r < 64) : (x : Int) / 2 / 2 ^ (63 - r) = ((x / 2 ^ (64 - r) : Nat) : Int) := by
  rw [Int.natCast_ediv, Int.natCast_pow, show 64 - r = (63 - r) + 1 by omega, Int.pow_succ, Int.mul_comm, ← Int.ediv_ediv_of_nonneg (by omega)]
  rfl
theorem or_zero_left {y : Nat} (hy : y < BB) : bits .or .u64 (0 : Int) (y : Int) = (y : Int) := by
  have h := u64_or_nat 0 y (by omega) hy
  rw [Nat.zero_or] at h
  exact h

theorem shr_val (x r : Nat) : (x : Int) / 2 ^ r = ((x / 2 ^ r : Nat) : Int) := by
  rw [Int.natCast_ediv, Int.natCast_pow]
  rfl
theorem shl_two (y r : Nat) (hr : r < 64) : IntKind.u64.wrap (IntKind.u64.wrap ((y : Int) * 2) * 2 ^ (63 - r)) = ((y * 2 ^ (64 - r) % BB : Nat) : Int) := by
  have h1 := wrap_shl y 1
  rw [Int.pow_one] at h1
  rw [h1, wrap_shl, Nat.mod_mul_mod, Nat.pow_one, Nat.mul_assoc, ← Nat.pow_succ', show (63 - r).succ = 64 - r by omega]
theorem or_hi {x y r : Nat} (hx : x < BB) (hr : r < 64) : bits .or .u64 ((x : Int) / 2 ^ r) (IntKind.u64.wrap (IntKind.u64.wrap ((y : Int) * 2) * 2 ^ (63 - r))) = ((rlimb x y r : Nat) : Int) := by
  have hB : BB = 2 ^ (64 - r) * 2 ^ r := by rw [BB_eq, ← Nat.pow_add]; congr 1; omega
  have h1 : x / 2 ^ r < 2 ^ (64 - r) := by rw [Nat.div_lt_iff_lt_mul (Nat.two_pow_pos r), ← hB]; exact hx
  have h2 : y * 2 ^ (64 - r) % BB % 2 ^ (64 - r) = 0 := by
    conv => lhs; lhs; rw [hB, Nat.mul_comm y, Nat.mul_mod_mul_left]
    exact Nat.mul_mod_right _ _
  have h3 : x / 2 ^ r < 18446744073709551616 := Nat.lt_of_le_of_lt (Nat.div_le_self _ _) hx
  have h4 : y * 2 ^ (64 - r) % BB < 18446744073709551616 := Nat.mod_lt _ BB_pos
  rw [shl_two y r hr, shr_val, u64_or_nat _ _ h3 h4, Nat.or_comm, nat_join (64 - r) _ _ h2 h1, Nat.add_comm]
  rfl
end Go.Proofs.YtaifjldpjkabjaaDoor
