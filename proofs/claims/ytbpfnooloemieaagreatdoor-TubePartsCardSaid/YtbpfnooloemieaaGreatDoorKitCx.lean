/- Words for regions that draw their order, read two Dyads in variables and store a third: what stays so. -/
import Derived.Test.YtbpfnooloemieaaGreatDoorInnx
import Derived.Deep.RegionHeld3
namespace Go.Proofs.YtbpfnooloemieaaGreatDoor
open Go.RowKit Pl

/-- A block that holds some Dyad. -/
def SomeDy (w : World) (b : Nat) (t : TypeId) : Prop := ∃ g A n c e, Box w b [.bool g, .slice A n c, .int .i64 e] t
theorem SomeDy.get {w : World} {b : Nat} {t : TypeId} (h : SomeDy w b t) : ∃ g A n c e, Box w b [.bool g, .slice A n c, .int .i64 e] t := h
/-- What a region keeps that reads the blocks b1, b2, stores Dyads into b3, and reads the naturals rs. -/
structure Held (w0 : World) (B b1 b2 b3 : Nat) (xs ys : List Value) (t : TypeId) (rs : List (Value × Nat)) (w : World) : Prop where
  x : Box w b1 xs t
  y : Box w b2 ys t
  z : SomeDy w b3 t
  b : Below B w0 w
  r : ∀ p ∈ rs, R64 w p.1 p.2
theorem R64.store3 {w : World} {u : Value} {X : Nat} (h : R64 w u X) {g : Nat} {a b c : Value} {t : TypeId} (hB : Box w g [a, b, c] t) (v0 v1 v2 : Value) (h0 : ∀ x, .int .u64 x ∉ [a, b, c]) (h1 : ∀ x, .int .u64 x ∉ [v0, v1, v2]) :
    R64 (((w.setCell ⟨g, 0, none⟩ v0).setCell ⟨g, 1, none⟩ v1).setCell ⟨g, 2, none⟩ v2) u X := by
  obtain ⟨A, n, m, hu, hr⟩ := h
  exact ⟨A, n, m, hu, hr.store3 hB v0 v1 v2 h0 h1⟩
section
variable {w0 : World} {B b1 b2 b3 : Nat} {xs ys : List Value} {t : TypeId} {rs : List (Value × Nat)} {w : World}
theorem Held.drew (h : Held w0 B b1 b2 b3 xs ys t rs w) : Held w0 B b1 b2 b3 xs ys t rs w.drew :=
  ⟨h.x.drew, h.y.drew, by obtain ⟨g, A, n, c, e, hz⟩ := h.z; exact ⟨g, A, n, c, e, hz.drew⟩, h.b.drew, fun p hp => (h.r p hp).drew⟩
theorem Held.keep (h : Held w0 B b1 b2 b3 xs ys t rs w) {w' : World} (hb : Below w.heap.size w w') (hB : B ≤ w.heap.size) : Held w0 B b1 b2 b3 xs ys t rs w' :=
  ⟨h.x.keep hb, h.y.keep hb, by obtain ⟨g, A, n, c, e, hz⟩ := h.z; exact ⟨g, A, n, c, e, hz.keep hb⟩, h.b.trans (hb.mono hB), fun p hp => (h.r p hp).below hb⟩
theorem Held.size (h : Held w0 B b1 b2 b3 xs ys t rs w) (hB : B ≤ b1) : B ≤ w.heap.size := Nat.le_trans hB (Nat.le_of_lt h.x.lt)
theorem Held.store (h : Held w0 B b1 b2 b3 xs ys t rs w) (n1 : b1 ≠ b3) (n2 : b2 ≠ b3) (hB : B ≤ b3) (g : Bool) (A : Option Addr) (n c : Nat) (e : Int) :
    Held w0 B b1 b2 b3 xs ys t rs (((w.setCell ⟨b3, 0, none⟩ (.bool g)).setCell ⟨b3, 1, none⟩ (.slice A n c)).setCell ⟨b3, 2, none⟩ (.int .i64 e)) := by
  obtain ⟨g', A', n', c', e', hz⟩ := h.z
  exact ⟨h.x.far3 n1 _ _ _, h.y.far3 n2 _ _ _, ⟨_, _, _, _, _, hz.store3 _ _ _⟩, below_store3 h.b hB _ _ _, fun p hp => (h.r p hp).store3 hz _ _ _ (dy_no _ _ _ ⟨_, _, _, rfl⟩) (dy_no _ _ _ ⟨_, _, _, rfl⟩)⟩
end
/-- A condition behind a plain name. -/
def Kept (S : World → Prop) (w : World) : Prop := S w
theorem some_cells {S : World → Prop} {b : Nat} {t : TypeId} (h : ∀ w, S w → SomeDy w b t) :
    (∃ c0 : World → Value, ∀ w, S w → w.cell? ⟨b, 0, none⟩ = some (c0 w)) ∧ (∃ c1 : World → Value, ∀ w, S w → w.cell? ⟨b, 1, none⟩ = some (c1 w)) ∧ (∃ c2 : World → Value, ∀ w, S w → w.cell? ⟨b, 2, none⟩ = some (c2 w)) ∧
    (∀ w, S w → w.frozen? ⟨b, 0, none⟩ = false) ∧ (∀ w, S w → w.frozen? ⟨b, 1, none⟩ = false) ∧ (∀ w, S w → w.frozen? ⟨b, 2, none⟩ = false) := by
  refine ⟨⟨fun w => (w.cell? ⟨b, 0, none⟩).getD undef, fun w hw => ?_⟩, ⟨fun w => (w.cell? ⟨b, 1, none⟩).getD undef, fun w hw => ?_⟩, ⟨fun w => (w.cell? ⟨b, 2, none⟩).getD undef, fun w hw => ?_⟩, fun w hw => ?_, fun w hw => ?_, fun w hw => ?_⟩
  all_goals obtain ⟨g, A, n, c, e, hz⟩ := h w hw
  · simp only [hz.cell 0 rfl, Option.getD_some]
  · simp only [hz.cell 1 rfl, Option.getD_some]
  · simp only [hz.cell 2 rfl, Option.getD_some]
  · exact hz.frozen 0
  · exact hz.frozen 1
  · exact hz.frozen 2
/-- Three cells of a variable known whole. -/
theorem box_cells {S : World → Prop} {b : Nat} {t : TypeId} {u0 u1 u2 : Value} (h : ∀ w, S w → Box w b [u0, u1, u2] t) :
    (∀ w, S w → w.cell? ⟨b, 0, none⟩ = some u0) ∧ (∀ w, S w → w.cell? ⟨b, 1, none⟩ = some u1) ∧ (∀ w, S w → w.cell? ⟨b, 2, none⟩ = some u2) :=
  ⟨fun w hw => (h w hw).cell 0 rfl, fun w hw => (h w hw).cell 1 rfl, fun w hw => (h w hw).cell 2 rfl⟩
/-- All that a walk wants of such a region, at once. -/
theorem held_open {w0 W : World} {B b1 b2 b3 : Nat} {xn yn : Bool} {xs ys : Value} {xe ye : Int} {t : TypeId} (rs : List (Value × Nat)) (hA : Box W b1 [.bool xn, xs, .int .i64 xe] t) (hB : Box W b2 [.bool yn, ys, .int .i64 ye] t) (hC : SomeDy W b3 t)
    (hb : Below B w0 W) (n1 : b1 ≠ b3) (n2 : b2 ≠ b3) (g1 : B ≤ b1) (g3 : B ≤ b3) (hr : ∀ p ∈ rs, R64 W p.1 p.2) :
    ∃ S : World → Prop, Kept S W ∧ (∀ w', Kept S w' → Kept S w'.drew) ∧ (∀ w' w'', Kept S w' → Below w'.heap.size w' w'' → Kept S w'') ∧
      (∀ w', Kept S w' → ∀ g A n c e, Kept S (((w'.setCell ⟨b3, 0, none⟩ (.bool g)).setCell ⟨b3, 1, none⟩ (.slice A n c)).setCell ⟨b3, 2, none⟩ (.int .i64 e))) ∧
      ((∀ w, Kept S w → w.cell? ⟨b1, 0, none⟩ = some (.bool xn)) ∧ (∀ w, Kept S w → w.cell? ⟨b1, 1, none⟩ = some xs) ∧ (∀ w, Kept S w → w.cell? ⟨b1, 2, none⟩ = some (.int .i64 xe))) ∧
      ((∀ w, Kept S w → w.cell? ⟨b2, 0, none⟩ = some (.bool yn)) ∧ (∀ w, Kept S w → w.cell? ⟨b2, 1, none⟩ = some ys) ∧ (∀ w, Kept S w → w.cell? ⟨b2, 2, none⟩ = some (.int .i64 ye))) ∧
      ((∃ c0 : World → Value, ∀ w, Kept S w → w.cell? ⟨b3, 0, none⟩ = some (c0 w)) ∧ (∃ c1 : World → Value, ∀ w, Kept S w → w.cell? ⟨b3, 1, none⟩ = some (c1 w)) ∧ (∃ c2 : World → Value, ∀ w, Kept S w → w.cell? ⟨b3, 2, none⟩ = some (c2 w)) ∧
        (∀ w, Kept S w → w.frozen? ⟨b3, 0, none⟩ = false) ∧ (∀ w, Kept S w → w.frozen? ⟨b3, 1, none⟩ = false) ∧ (∀ w, Kept S w → w.frozen? ⟨b3, 2, none⟩ = false)) ∧
      (∀ w', Kept S w' → Below B w0 w') ∧ (∀ w', Kept S w' → SomeDy w' b3 t) ∧ (∀ w', Kept S w' → ∀ p ∈ rs, R64 w' p.1 p.2) := by
  refine ⟨Held w0 B b1 b2 b3 [.bool xn, xs, .int .i64 xe] [.bool yn, ys, .int .i64 ye] t rs, ⟨hA, hB, hC, hb, hr⟩, fun w' h => ?_, fun w' w'' h hb => ?_, fun w' h g A n c e => ?_, ?_, ?_, ?_, ?_, ?_, ?_⟩
  · exact Held.drew h
  · exact Held.keep h hb (Held.size h g1)
  · exact Held.store h n1 n2 g3 g A n c e
  · exact box_cells (fun w' h => Held.x h)
  · exact box_cells (fun w' h => Held.y h)
  · exact some_cells (fun w' h => Held.z h)
  · exact fun w' h => Held.b h
  · exact fun w' h => Held.z h
  · exact fun w' h => Held.r h
theorem must_two (b : Bool) (k : Int) (w : World) : Calls Tryz.prog 117 #[.bool b, .int .i64 k] w fun e w' => (b = true ∧ e = .returned (.tuple #[]) ∧ w = w') ∨ (b = false ∧ e = .panicked (failD k) ∧ w = w') := by
  cases b
  · exact (must_no k w).mono fun e w' ⟨h1, h2⟩ => .inr ⟨rfl, h1, h2⟩
  · exact (must_yes k w).mono fun e w' ⟨h1, h2⟩ => .inl ⟨rfl, h1, h2⟩
/-- fit on values. -/
theorem fitV (neg : Bool) (u : Value) (X : Nat) (e : Int) (w : World) (h : R64 w u X) (hX : blen X ≤ 640000) (he1 : -9223372036854775808 ≤ e) (he2 : e ≤ 9223372036854775807) (hT : TabAt w) :
    Calls Tryz.prog 118 #[.bool neg, u, .int .i64 e] w (FitPost w (fitS neg X e)) := by
  obtain ⟨A, n, c, rfl, hr, hn⟩ := h.limb
  have h1 := fit_any neg A n c _ e w hr (limbs_lim BB_gt1 X) (limbs_can BB_gt1 X) (by have := limb_len (show blen X ≤ 64 * 10000 by omega); omega) he1 he2 hT
  rw [limbs_val BB_gt1] at h1
  exact h1
end Go.Proofs.YtbpfnooloemieaaGreatDoor
