/- sluicewaylaw2: the walk of DyadOnes. Printed by wip/mk_L2E.py. -/
import Derived.Test.YtbpfnooloemieaaGreatDoorL2Cx
import Derived.Test.YtbpfnooloemieaaGreatDoorRfHx
namespace Go.Proofs.YtbpfnooloemieaaGreatDoor
open Go.RowKit Pl
attribute [local go_sem ↓] Go.wp_at_zero Go.wp_at_succ

theorem limbsX (u : Value) (X : Nat) (w : World) (h : R16 w u X) (hX : blen X ≤ 1500000) :
    Calls Tryz.prog 140 #[u] w fun e w' => (∃ z, e = .returned z ∧ R64 w' z X) ∧ Below w.heap.size w w' := by
  obtain ⟨A, n, c, rfl, hr⟩ := h
  exact (limbs_any A n c X w hr (dig_len' hr (show blen X ≤ 16 * 100000 by omega))).mono fun e w' ⟨v, he, hv, hb⟩ => ⟨⟨v, he, hv⟩, hb⟩

end Go.Proofs.YtbpfnooloemieaaGreatDoor
