/- Contracts of package dyad, part J: the inner product. Contracts of package dyad, part K: the inner sum, the inner difference. Printed by wip/mk_DyK.py. Contracts of package dyad, part L: Fit, Norm, Of, two, Add, Sub, Mul. Printed by wip/mk_DyL.py. -/
import Derived.Test.YtpkfjfpknbhekaaKitCx
import Derived.Deep.RegionHeld2
namespace Go.Proofs.Ytpkfjfpknbhekaa
open Go.RowKit Pl
attribute [local go_sem ↓] Go.wp_at_zero Go.wp_at_succ

end Go.Proofs.Ytpkfjfpknbhekaa
namespace Go.Proofs.Ytpkfjfpknbhekaa
open Go.RowKit Pl
attribute [local go_sem ↓] Go.wp_at_zero Go.wp_at_succ

end Go.Proofs.Ytpkfjfpknbhekaa
namespace Go.Proofs.Ytpkfjfpknbhekaa
open Go.RowKit Pl
attribute [local go_sem ↓] Go.wp_at_zero Go.wp_at_succ

theorem SomeDy.keep {w w' : World} {b : Nat} {t : TypeId} (h : SomeDy w b t) (hb : Below w.heap.size w w') : SomeDy w' b t := by
  obtain ⟨g, A, n, c, e, hz⟩ := h; exact ⟨g, A, n, c, e, hz.keep hb⟩
end Go.Proofs.Ytpkfjfpknbhekaa
