/- Counts as the laws take them: 1 + int(uint(p) % k). -/
import Derived.Test.YtbpfnooloemieaaDoorSxGx
namespace Go.Proofs.YtbpfnooloemieaaDoor
open Go.RowKit
theorem pr_cvtu (x : Int) : Sx.Prim.ev (.cvt .u64) [.int .i64 x] = some (.int .u64 (((x % 18446744073709551616).toNat : Nat) : Int)) := by
  show some (Value.int .u64 (x % 18446744073709551616)) = _
  rw [Int.toNat_of_nonneg (Int.emod_nonneg _ (by decide))]
theorem pr_cvtn {n : Nat} (h : n ≤ 1000000) : Sx.Prim.ev (.cvt .u64) [.int .i64 (n : Int)] = some (.int .u64 (n : Int)) := by
  show some (Value.int .u64 ((n : Int) % 18446744073709551616)) = _
  rw [Int.emod_eq_of_lt (by omega) (by omega)]
theorem pr_rem {a b : Nat} (h : 0 < b) : Sx.Prim.ev (.bin .rem) [.int .u64 (a : Int), .int .u64 (b : Int)] = some (.int .u64 ((a % b : Nat) : Int)) := by
  show (if (b : Int) = 0 then none else some (Value.int .u64 ((a : Int).tmod b))) = _
  rw [if_neg (by omega), Int.ofNat_tmod]
theorem pr_cvti {n : Nat} (h : n < 1000000) : Sx.Prim.ev (.cvt .i64) [.int .u64 (n : Int)] = some (.int .i64 (n : Int)) := by
  show some (Value.int .i64 (IntKind.i64.wrap n)) = _
  rw [IntWalk.i64_in _ (by omega)]
theorem pr_one {m n : Nat} (e : n = 1 + m) (h : m < 1000000) : Sx.Prim.ev (.bin .add) [.int .i64 1, .int .i64 (m : Int)] = some (.int .i64 (n : Int)) := by
  show some (Value.int .i64 (IntKind.i64.wrap (1 + (m : Int)))) = _
  rw [IntWalk.i64_in _ (by omega), e]
  rfl
end Go.Proofs.YtbpfnooloemieaaDoor
