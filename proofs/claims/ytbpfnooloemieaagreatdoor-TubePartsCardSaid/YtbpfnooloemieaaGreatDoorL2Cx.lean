/- sluicewaylaw2: the walk of DyadOrder. Printed by wip/mk_L2C.py. sluicewaylaw2: the walk of DyadFar. Printed by wip/mk_L2D.py. -/
import Derived.Test.YtbpfnooloemieaaGreatDoorL2Ax
import Derived.Deep.RegionHeld3
import Derived.Deep.DrawnRows
namespace Go.Proofs.YtbpfnooloemieaaGreatDoor
open Go.RowKit Pl
attribute [local go_sem ↓] Go.wp_at_zero Go.wp_at_succ

theorem cmpI_anti (x y : Int) : cmpI y x = - cmpI x y := by
  unfold cmpI
  rcases Int.lt_trichotomy x y with h | h | h
  · rw [if_pos h, if_neg (by omega), if_pos h]; rfl
  · rw [if_neg (by omega), if_neg (by omega), if_neg (by omega), if_neg (by omega)]; rfl
  · rw [if_pos h, if_neg (by omega), if_pos h]
section
variable {a b : Dy} (ha : mayD a = true) (la : Lim BB a.m) (hb : mayD b = true) (lb : Lim BB b.m)
include ha la hb lb
theorem order_anti : cmpD b a = - cmpD a b := by rw [cmpD_Z hb lb ha la, cmpD_Z ha la hb lb, cmpI_anti]
end

end Go.Proofs.YtbpfnooloemieaaGreatDoor
namespace Go.Proofs.YtbpfnooloemieaaGreatDoor
open Go.RowKit Pl
attribute [local go_sem ↓] Go.wp_at_zero Go.wp_at_succ

section
variable {s t k : Nat} (hs : s % 2 = 1) (hs2 : s < BB) (ht : t % 2 = 1) (ht2 : t < BB) (hk1 : 5000 ≤ k) (hk2 : k < 505000)
include hs hs2 ht ht2 hk1 hk2
end

end Go.Proofs.YtbpfnooloemieaaGreatDoor
