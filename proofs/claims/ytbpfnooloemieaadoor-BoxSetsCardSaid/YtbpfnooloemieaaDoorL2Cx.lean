/- sluicewaylaw2: the walk of DyadOrder. Printed by wip/mk_L2C.py. -/
import Derived.Test.YtbpfnooloemieaaDoorL2Ax
import Derived.Deep.RegionHeld3
import Derived.Deep.DrawnRows
namespace Go.Proofs.YtbpfnooloemieaaDoor
open Go.RowKit Pl
attribute [local go_sem ↓] Go.wp_at_zero Go.wp_at_succ

theorem cmpI_anti (x y : Int) : cmpI y x = - cmpI x y := by
  unfold cmpI
  rcases Int.lt_trichotomy x y with h | h | h
  · rw [if_pos h, if_neg (by omega), if_pos h]; rfl
  · rw [if_neg (by omega), if_neg (by omega), if_neg (by omega), if_neg (by omega)]; rfl
  · rw [if_pos h, if_neg (by omega), if_pos h]
section
variable {a b : Dy} (ha : mayD a = true) (la : Lim BB a.m) (hb : mayD b = true) (lb : Lim BB b.m)
include ha la hb lb
theorem order_anti : cmpD b a = - cmpD a b := by rw [cmpD_Z hb lb ha la, cmpD_Z ha la hb lb, cmpI_anti]
end

end Go.Proofs.YtbpfnooloemieaaDoor
