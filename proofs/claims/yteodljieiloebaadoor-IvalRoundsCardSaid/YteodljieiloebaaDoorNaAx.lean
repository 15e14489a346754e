/- sluicewaylaw1: Few, Same, is, told. sluicewaylaw1: told. -/
import Derived.Test.YteodljieiloebaaDoorNatGx
import Derived.Test.YteodljieiloebaaDoorRfHx
namespace Go.Proofs.YteodljieiloebaaDoor
open Go.RowKit Pl

end Go.Proofs.YteodljieiloebaaDoor
namespace Go.Proofs.YteodljieiloebaaDoor
open Go.RowKit Pl

theorem rd1 {W : World} {b x : Nat} (hb : b < W.heap.size) (hc : W.cell? ⟨b, 0, none⟩ = some (.int .u64 (x : Int))) : RdN .u64 W (some ⟨b, 0, none⟩) 1 1 [x] :=
  ⟨rfl, Nat.le_refl _, by decide, fun _ => ⟨b, 0, rfl, hb, fun k hk => by
    obtain rfl : k = 0 := by omega
    exact hc⟩⟩
theorem limbs1 {x : Nat} (h0 : 0 < x) (h : x < BB) : limbs BB x = [x] := limbs_of BB_gt1 (Lim.cons h Lim.nil) (by simp [Cnl]; omega) (by simp [val])
theorem R64.one {W : World} {b x : Nat} (h0 : 0 < x) (h : x < BB) (hb : b < W.heap.size) (hc : W.cell? ⟨b, 0, none⟩ = some (.int .u64 (x : Int))) : R64 W (.slice (some ⟨b, 0, none⟩) 1 1) x :=
  ⟨_, _, _, rfl, by rw [limbs1 h0 h]; exact rd1 hb hc⟩
theorem R64b {W : World} {b : Nat} {t : TypeId} (x : Nat) (h : Box W b [.int .u64 (x : Int)] t) (h0 : 0 < x) (hx : x < BB) : R64 W (.slice (some ⟨b, 0, none⟩) 1 1) x := R64.one h0 hx h.lt (h.cell 0 rfl)

end Go.Proofs.YteodljieiloebaaDoor
