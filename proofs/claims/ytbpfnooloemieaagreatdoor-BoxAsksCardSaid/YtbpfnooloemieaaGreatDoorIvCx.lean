/- sluicewaylaw5.told and the walk of IvalAsks, by their trees. Printed by wip/mk_IvC.py. -/
import Derived.Test.YtbpfnooloemieaaGreatDoorIvBx
import Derived.Test.YtbpfnooloemieaaGreatDoorDyMx
import Derived.Test.YtbpfnooloemieaaGreatDoorSxGx
namespace Go.Proofs.YtbpfnooloemieaaGreatDoor
open Go.RowKit Pl
open Sx (sat_call sat_chk sat_prim sat_ite sat_true sat_false sat_trueP sat_falseP sat_ret sat_row all_nil all_cons okB okS okI)

def D1 : Dy := ⟨false, [1], 0⟩
theorem rdi1 {W : World} {b x : Nat} (hb : b < W.heap.size) (hc : W.cell? ⟨b, 0, none⟩ = some (.int .u64 (x : Int))) : RdN .u64 W (some ⟨b, 0, none⟩) 1 1 [x] :=
  ⟨rfl, Nat.le_refl _, by decide, fun _ => ⟨b, 0, rfl, hb, fun k hk => by
    obtain rfl : k = 0 := by omega
    exact hc⟩⟩
theorem lim_D1 : Lim BB D1.m := Lim.cons BB_gt1 Lim.nil
theorem c_self {d : Dy} (l : Lim BB d.m) : cmpD d d = 0 := by have := cmpD_anti l l; omega
theorem c11 : cmpD D1 D1 = 0 := c_self lim_D1
theorem may_1 : mayD D1 = true := by decide
theorem mayI11 : mayI ⟨D1, D1⟩ = true := by unfold mayI; simp only [c11, may_1]; rfl
theorem dx2 {d d' : Dy} {x x' : Int} {r : Dy × Int} (k : Hid ((d, x) = r)) (e : r = (d', x')) : d = d' ∧ x = x' := by
  have := k.out.trans e
  injection this with h1 h2
  exact ⟨h1, h2⟩
end Go.Proofs.YtbpfnooloemieaaGreatDoor
