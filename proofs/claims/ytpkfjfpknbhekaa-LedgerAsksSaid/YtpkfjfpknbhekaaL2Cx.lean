/- sluicewaylaw2: the walk of DyadOrder. Printed by wip/mk_L2C.py. sluicewaylaw2: the walk of DyadFar. Printed by wip/mk_L2D.py. -/
import Derived.Test.YtpkfjfpknbhekaaDyMx
import Derived.Deep.RegionHeld3
import Derived.Deep.DrawnRows
namespace Go.Proofs.Ytpkfjfpknbhekaa
open Go.RowKit Pl
attribute [local go_sem ↓] Go.wp_at_zero Go.wp_at_succ

section
variable {a b : Dy} (ha : mayD a = true) (la : Lim BB a.m) (hb : mayD b = true) (lb : Lim BB b.m)
include ha la hb lb
end

end Go.Proofs.Ytpkfjfpknbhekaa
namespace Go.Proofs.Ytpkfjfpknbhekaa
open Go.RowKit Pl
attribute [local go_sem ↓] Go.wp_at_zero Go.wp_at_succ

section
variable {s t k : Nat} (hs : s % 2 = 1) (hs2 : s < BB) (ht : t % 2 = 1) (ht2 : t < BB) (hk1 : 5000 ≤ k) (hk2 : k < 505000)
include hs hs2 ht ht2 hk1 hk2
end

end Go.Proofs.Ytpkfjfpknbhekaa
