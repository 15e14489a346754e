/- Counts as the laws take them: 1 + int(uint(p) % k). -/
import Derived.Test.YtpkfjfpknbhekaaSxGx
namespace Go.Proofs.Ytpkfjfpknbhekaa
open Go.RowKit
theorem pr_cvtn {n : Nat} (h : n ≤ 1000000) : Sx.Prim.ev (.cvt .u64) [.int .i64 (n : Int)] = some (.int .u64 (n : Int)) := by
  show some (Value.int .u64 ((n : Int) % 18446744073709551616)) = _
  rw [Int.emod_eq_of_lt (by omega) (by omega)]
end Go.Proofs.Ytpkfjfpknbhekaa
