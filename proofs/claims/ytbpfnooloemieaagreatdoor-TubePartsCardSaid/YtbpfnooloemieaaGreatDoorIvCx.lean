/- sluicewaylaw5.told and the walk of IvalAsks, by their trees. Printed by wip/mk_IvC.py. -/
import Derived.Test.YtbpfnooloemieaaGreatDoorIvBx
import Derived.Test.YtbpfnooloemieaaGreatDoorDyMx
import Derived.Test.YtbpfnooloemieaaGreatDoorSxGx
namespace Go.Proofs.YtbpfnooloemieaaGreatDoor
open Go.RowKit Pl
open Sx (sat_call sat_chk sat_prim sat_ite sat_true sat_false sat_trueP sat_falseP sat_ret sat_row all_nil all_cons okB okS okI)

def D1 : Dy := ⟨false, [1], 0⟩
theorem rdi1 {W : World} {b x : Nat} (hb : b < W.heap.size) (hc : W.cell? ⟨b, 0, none⟩ = some (.int .u64 (x : Int))) : RdN .u64 W (some ⟨b, 0, none⟩) 1 1 [x] :=
  ⟨rfl, Nat.le_refl _, by decide, fun _ => ⟨b, 0, rfl, hb, fun k hk => by
    obtain rfl : k = 0 := by omega
    exact hc⟩⟩
theorem lim_D1 : Lim BB D1.m := Lim.cons BB_gt1 Lim.nil
theorem iv3 {l h l' h' : Dy} {x x' : Int} {r : Iv × Int} (k : Hid ((⟨l, h⟩, x) = r)) (e : r = (⟨l', h'⟩, x')) : l = l' ∧ h = h' ∧ x = x' := by
  have := k.out.trans e
  injection this with h1 h2
  injection h1 with h3 h4
  exact ⟨h3, h4, h2⟩
end Go.Proofs.YtbpfnooloemieaaGreatDoor
