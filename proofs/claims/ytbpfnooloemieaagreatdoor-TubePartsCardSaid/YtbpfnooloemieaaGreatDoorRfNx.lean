/- Contracts of the document's answer sluicewayref1, part N: MulDyad, AddDyad, SubDyad. Printed by wip/mk_RfN.py. -/
import Derived.Test.YtbpfnooloemieaaGreatDoorRfMx
import Derived.Test.YtbpfnooloemieaaGreatDoorRfJx
namespace Go.Proofs.YtbpfnooloemieaaGreatDoor
open Go.RowKit Pl
attribute [local go_sem ↓] Go.wp_at_zero Go.wp_at_succ

theorem r16_of {w : World} {A : Option Addr} {n c X : Nat} (h : RdN .u32 w A n c (limbs DD X)) : R16 w (.slice A n c) X := ⟨_, _, _, rfl, h⟩
theorem DyTup.val {w' : World} {e : Ending} {r s : Dy × Int} (h : DyTup w' e r) (hr : r = s) : DyTup w' e s := by rw [← hr]; exact h
/-- Boxes of two Dyads and of the result, as such a function begins. -/
theorem open3 (w : World) (a b : Dy) (A : Option Addr) (n c : Nat) (B : Option Addr) (m d : Nat) :
    Box (((w.alloc (.cells #[.bool a.neg, .slice A n c, .int .i64 a.e] 30)).alloc (.cells #[.bool b.neg, .slice B m d, .int .i64 b.e] 30)).alloc (.cells #[.bool false, .slice none 0 0, .int .i64 0] 30)) w.heap.size [.bool a.neg, .slice A n c, .int .i64 a.e] 30 ∧ Box (((w.alloc (.cells #[.bool a.neg, .slice A n c, .int .i64 a.e] 30)).alloc (.cells #[.bool b.neg, .slice B m d, .int .i64 b.e] 30)).alloc (.cells #[.bool false, .slice none 0 0, .int .i64 0] 30)) (w.heap.size + 1) [.bool b.neg, .slice B m d, .int .i64 b.e] 30 ∧ Box (((w.alloc (.cells #[.bool a.neg, .slice A n c, .int .i64 a.e] 30)).alloc (.cells #[.bool b.neg, .slice B m d, .int .i64 b.e] 30)).alloc (.cells #[.bool false, .slice none 0 0, .int .i64 0] 30)) (w.heap.size + 1 + 1) [.bool false, .slice none 0 0, .int .i64 0] 30 ∧ Below w.heap.size w (((w.alloc (.cells #[.bool a.neg, .slice A n c, .int .i64 a.e] 30)).alloc (.cells #[.bool b.neg, .slice B m d, .int .i64 b.e] 30)).alloc (.cells #[.bool false, .slice none 0 0, .int .i64 0] 30)) := box_3 w [.bool a.neg, .slice A n c, .int .i64 a.e] [.bool b.neg, .slice B m d, .int .i64 b.e] [.bool false, .slice none 0 0, .int .i64 0] 30 30 30

end Go.Proofs.YtbpfnooloemieaaGreatDoor
