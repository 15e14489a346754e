/- Words for regions that draw their order, read two Dyads in variables and store a third: what stays so. -/
import Derived.Test.YtpkfjfpknbhekaaInnx
import Derived.Deep.RegionHeld3
namespace Go.Proofs.Ytpkfjfpknbhekaa
open Go.RowKit Pl

/-- A block that holds some Dyad. -/
def SomeDy (w : World) (b : Nat) (t : TypeId) : Prop := ∃ g A n c e, Box w b [.bool g, .slice A n c, .int .i64 e] t
theorem SomeDy.get {w : World} {b : Nat} {t : TypeId} (h : SomeDy w b t) : ∃ g A n c e, Box w b [.bool g, .slice A n c, .int .i64 e] t := h
/-- What a region keeps that reads the blocks b1, b2, stores Dyads into b3, and reads the naturals rs. -/
structure Held (w0 : World) (B b1 b2 b3 : Nat) (xs ys : List Value) (t : TypeId) (rs : List (Value × Nat)) (w : World) : Prop where
  x : Box w b1 xs t
  y : Box w b2 ys t
  z : SomeDy w b3 t
  b : Below B w0 w
  r : ∀ p ∈ rs, R64 w p.1 p.2
theorem R64.store3 {w : World} {u : Value} {X : Nat} (h : R64 w u X) {g : Nat} {a b c : Value} {t : TypeId} (hB : Box w g [a, b, c] t) (v0 v1 v2 : Value) (h0 : ∀ x, .int .u64 x ∉ [a, b, c]) (h1 : ∀ x, .int .u64 x ∉ [v0, v1, v2]) :
    R64 (((w.setCell ⟨g, 0, none⟩ v0).setCell ⟨g, 1, none⟩ v1).setCell ⟨g, 2, none⟩ v2) u X := by
  obtain ⟨A, n, m, hu, hr⟩ := h
  exact ⟨A, n, m, hu, hr.store3 hB v0 v1 v2 h0 h1⟩
section
variable {w0 : World} {B b1 b2 b3 : Nat} {xs ys : List Value} {t : TypeId} {rs : List (Value × Nat)} {w : World}
theorem Held.drew (h : Held w0 B b1 b2 b3 xs ys t rs w) : Held w0 B b1 b2 b3 xs ys t rs w.drew :=
  ⟨h.x.drew, h.y.drew, by obtain ⟨g, A, n, c, e, hz⟩ := h.z; exact ⟨g, A, n, c, e, hz.drew⟩, h.b.drew, fun p hp => (h.r p hp).drew⟩
theorem Held.keep (h : Held w0 B b1 b2 b3 xs ys t rs w) {w' : World} (hb : Below w.heap.size w w') (hB : B ≤ w.heap.size) : Held w0 B b1 b2 b3 xs ys t rs w' :=
  ⟨h.x.keep hb, h.y.keep hb, by obtain ⟨g, A, n, c, e, hz⟩ := h.z; exact ⟨g, A, n, c, e, hz.keep hb⟩, h.b.trans (hb.mono hB), fun p hp => (h.r p hp).below hb⟩
theorem Held.size (h : Held w0 B b1 b2 b3 xs ys t rs w) (hB : B ≤ b1) : B ≤ w.heap.size := Nat.le_trans hB (Nat.le_of_lt h.x.lt)
end
/-- A condition behind a plain name. -/
def Kept (S : World → Prop) (w : World) : Prop := S w
end Go.Proofs.Ytpkfjfpknbhekaa
