/- Contracts of the document's answer sluicewayref1, part O: AddDyad. Printed by wip/mk_RfO.py. -/
import Derived.Test.YtpkfjfpknbhekaaRfNx
import Derived.Test.YtpkfjfpknbhekaaRfMx
namespace Go.Proofs.Ytpkfjfpknbhekaa
open Go.RowKit Pl
attribute [local go_sem ↓] Go.wp_at_zero Go.wp_at_succ

/-- What stands in memory behind region 7. -/
structure Made (W wx : World) (a b : Dy) (X Y b3 g6 g7 : Nat) (A1 : Option Addr) (n1 c1 : Nat) (A2 : Option Addr) (n2 c2 : Nat) : Prop where
  p : Box wx g6 [.bool a.neg, .slice A1 n1 c1, .int .i64 a.e] 119
  q : Box wx g7 [.bool b.neg, .slice A2 n2 c2, .int .i64 b.e] 119
  z : Box wx b3 [.bool false, .slice none 0 0, .int .i64 0] 24
  b : Below W.heap.size W wx
  ra : RdN .u32 wx A1 n1 c1 (limbs DD X)
  rb : RdN .u32 wx A2 n2 c2 (limbs DD Y)
theorem Made.keep {W wx w' : World} {a b : Dy} {X Y b3 g6 g7 : Nat} {A1 : Option Addr} {n1 c1 : Nat} {A2 : Option Addr} {n2 c2 : Nat} (h : Made W wx a b X Y b3 g6 g7 A1 n1 c1 A2 n2 c2) (hb : Below wx.heap.size wx w') : Made W w' a b X Y b3 g6 g7 A1 n1 c1 A2 n2 c2 :=
  ⟨h.p.keep hb, h.q.keep hb, h.z.keep hb, below_then h.b hb, h.ra.below hb, h.rb.below hb⟩
end Go.Proofs.Ytpkfjfpknbhekaa
