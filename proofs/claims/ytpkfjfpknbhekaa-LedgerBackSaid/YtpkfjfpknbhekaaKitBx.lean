/- More base words: appends of one element to a row of the call's own; naturals as limbs or digits. -/
import Derived.Test.YtpkfjfpknbhekaaBitsx
import Derived.Handy
import Derived.Deep.DeepCutAuto
import Derived.WalkMore
import Derived.Deep.CutBlock
import Derived.IntWalk
import Derived.Deep.RegionHeld3
import Derived.Deep.DrawnRows
namespace Go.Proofs.Ytpkfjfpknbhekaa
open Go.RowKit Pl

/-- A value that reads as a natural: digits of sixteen bits, limbs of sixty-four. -/
def R16 (w : World) (v : Value) (X : Nat) : Prop := ∃ A n c, v = .slice A n c ∧ RdN .u32 w A n c (limbs DD X)
def R64 (w : World) (v : Value) (X : Nat) : Prop := ∃ A n c, v = .slice A n c ∧ RdN .u64 w A n c (limbs BB X)
theorem R16.below {w w' : World} {v : Value} {X : Nat} (h : R16 w v X) (hb : Below w.heap.size w w') : R16 w' v X := by
  obtain ⟨A, n, c, hv, hr⟩ := h; exact ⟨A, n, c, hv, hr.below hb⟩
theorem R64.below {w w' : World} {v : Value} {X : Nat} (h : R64 w v X) (hb : Below w.heap.size w w') : R64 w' v X := by
  obtain ⟨A, n, c, hv, hr⟩ := h; exact ⟨A, n, c, hv, hr.below hb⟩
theorem R16.drewN {w : World} {v : Value} {X : Nat} (h : R16 w v X) (k : Nat) : R16 (w.drewN k) v X := by
  obtain ⟨A, n, c, hv, hr⟩ := h; exact ⟨A, n, c, hv, hr.drewN k⟩
theorem R16.drew {w : World} {v : Value} {X : Nat} (h : R16 w v X) : R16 w.drew v X := by
  obtain ⟨A, n, c, hv, hr⟩ := h; exact ⟨A, n, c, hv, hr.drew⟩
theorem R64.drewN {w : World} {v : Value} {X : Nat} (h : R64 w v X) (k : Nat) : R64 (w.drewN k) v X := by
  obtain ⟨A, n, c, hv, hr⟩ := h; exact ⟨A, n, c, hv, hr.drewN k⟩
theorem R64.drew {w : World} {v : Value} {X : Nat} (h : R64 w v X) : R64 w.drew v X := by
  obtain ⟨A, n, c, hv, hr⟩ := h; exact ⟨A, n, c, hv, hr.drew⟩
theorem R16.nil (w : World) : R16 w (.slice none 0 0) 0 := ⟨_, _, _, rfl, RdN.nil _ _⟩
theorem R64.nil (w : World) : R64 w (.slice none 0 0) 0 := ⟨_, _, _, rfl, RdN.nil _ _⟩
theorem below_then {w w1 w2 : World} (h : Below w.heap.size w w1) (h2 : Below w1.heap.size w1 w2) : Below w.heap.size w w2 := h.trans (h2.mono h.size)
/-! A region that draws its order, whose calls make memory but whose values are known: the class of all later worlds. -/
structure Ext (W : World) where
  w : World
  hb : Below W.heap.size W w
instance (W : World) : Nonempty (Ext W) := ⟨⟨W, Below.refl _ _⟩⟩
/-- A block whose first cells are known. -/
def Cells (w : World) (b : Nat) (vs : List Value) : Prop := b < w.heap.size ∧ ∀ j u, vs[j]? = some u → w.cell? ⟨b, j, none⟩ = some u
theorem Cells.below {w w' : World} {b : Nat} {vs : List Value} (h : Cells w b vs) (hb : Below w.heap.size w w') : Cells w' b vs :=
  ⟨Nat.lt_of_lt_of_le h.1 hb.size, fun j u hj => (hb.cell (p := ⟨b, j, none⟩) h.1).trans (h.2 j u hj)⟩
theorem Cells.drew {w : World} {b : Nat} {vs : List Value} (h : Cells w b vs) : Cells w.drew b vs := ⟨h.1, h.2⟩
theorem Cells.drewN {w : World} {b : Nat} {vs : List Value} (h : Cells w b vs) (k : Nat) : Cells (w.drewN k) b vs := ⟨h.1, h.2⟩
theorem Cells.ext {W : World} {b : Nat} {vs : List Value} (h : Cells W b vs) (j : Nat) (u : Value) (hj : vs[j]? = some u) : ∀ e : Ext W, e.w.cell? ⟨b, j, none⟩ = some u := fun e => (h.below e.hb).2 j u hj
theorem Cells.new {w : World} {t : TypeId} {vs : List Value} : Cells (w.alloc (.cells vs.toArray t)) w.heap.size vs :=
  ⟨by simp, fun j u hj => by rw [cell_of_row _ _ _ _ _ _ (heap_alloc_new w _)]; simpa using hj⟩
/-! A block that is known whole: a variable of the call's own. -/
def Box (w : World) (b : Nat) (vs : List Value) (t : TypeId) : Prop := w.heap[b]? = some (.cells vs.toArray t (0, 0))
theorem Box.lt {w : World} {b : Nat} {vs : List Value} {t : TypeId} (h : Box w b vs t) : b < w.heap.size := by
  rcases Nat.lt_or_ge b w.heap.size with h2 | h2
  · exact h2
  · unfold Box at h; rw [Array.getElem?_eq_none h2] at h; cases h
theorem Box.get {w : World} {b : Nat} {vs : List Value} {t : TypeId} (h : Box w b vs t) (j : Nat) : w.cell? ⟨b, j, none⟩ = vs[j]? := by
  rw [cell_of_row _ _ _ _ _ _ h]; simp
theorem Box.cell {w : World} {b : Nat} {vs : List Value} {t : TypeId} (h : Box w b vs t) (j : Nat) {u : Value} (hj : vs[j]? = some u) : w.cell? ⟨b, j, none⟩ = some u := by
  rw [h.get, hj]
theorem Box.below {w w' : World} {b B : Nat} {vs : List Value} {t : TypeId} (h : Box w b vs t) (hb : Below B w w') (hB : b < B) : Box w' b vs t := by
  unfold Box at *
  rw [hb.block b hB]; exact h
theorem Box.keep {w w' : World} {b : Nat} {vs : List Value} {t : TypeId} (h : Box w b vs t) (hb : Below w.heap.size w w') : Box w' b vs t := h.below hb h.lt
theorem Box.drew {w : World} {b : Nat} {vs : List Value} {t : TypeId} (h : Box w b vs t) : Box w.drew b vs t := h
theorem Box.drewN {w : World} {b : Nat} {vs : List Value} {t : TypeId} (h : Box w b vs t) (k : Nat) : Box (w.drewN k) b vs t := h
theorem Box.new (w : World) (vs : List Value) (t : TypeId) : Box (w.alloc (.cells vs.toArray t)) w.heap.size vs t := heap_alloc_new w _
theorem Box.set {w : World} {b : Nat} {vs : List Value} {t : TypeId} (h : Box w b vs t) (j : Nat) (v : Value) : Box (w.setCell ⟨b, j, none⟩ v) b (vs.set j v) t := by
  unfold Box at *
  simp [World.setCell, Array.getElem?_modify, h]
theorem Box.far {w : World} {b g : Nat} {vs : List Value} {t : TypeId} (h : Box w b vs t) (hne : b ≠ g) (j : Nat) (v : Value) : Box (w.setCell ⟨g, j, none⟩ v) b vs t := by
  unfold Box at *
  rw [Below.heap_setCell _ _ _ _ hne]; exact h
theorem Box.ext {W : World} {b : Nat} {vs : List Value} {t : TypeId} (h : Box W b vs t) (j : Nat) {u : Value} (hj : vs[j]? = some u) : ∀ e : Ext W, e.w.cell? ⟨b, j, none⟩ = some u := fun e => (h.keep e.hb).cell j hj
/-- Numbers lie elsewhere than in a box that holds none of their kind. -/
theorem RdN.apart {K : IntKind} {w : World} {A : Option Addr} {n c : Nat} {xs : List Nat} (h : RdN K w A n c xs) {g : Nat} {vs : List Value} {t : TypeId} (hB : Box w g vs t) (hno : ∀ x, .int K x ∉ vs) (j : Nat) (v : Value) :
    RdN K (w.setCell ⟨g, j, none⟩ v) A n c xs :=
  ⟨h.len, h.cap, h.max, fun hn => by
    obtain ⟨b, off, e, hb, hc⟩ := h.at_ hn
    have hne : b ≠ g := by
      rintro rfl
      have h1 := hc 0 hn
      rw [hB.get] at h1
      exact hno _ (List.mem_of_getElem? h1)
    refine ⟨b, off, e, by simpa [World.setCell] using hb, fun k hk => ?_⟩
    rw [World.cell?_setCell_other _ _ _ _ (by intro e; injection e with e; exact hne e.symm)]
    exact hc k hk⟩
section
variable {w : World} {g : Nat} {a b c : Value} {t : TypeId}
end
theorem box_2 (w : World) (us vs : List Value) (t1 t2 : TypeId) : Box ((w.alloc (.cells us.toArray t1)).alloc (.cells vs.toArray t2)) w.heap.size us t1 ∧ Box ((w.alloc (.cells us.toArray t1)).alloc (.cells vs.toArray t2)) (w.heap.size + 1) vs t2 ∧
    Below w.heap.size w ((w.alloc (.cells us.toArray t1)).alloc (.cells vs.toArray t2)) := by
  have h2 := Box.new (w.alloc (.cells us.toArray t1)) vs t2
  have e : (w.alloc (.cells us.toArray t1)).heap.size = w.heap.size + 1 := by simp
  rw [e] at h2
  exact ⟨(Box.new w us t1).keep (by go_grown), h2, by go_grown⟩
end Go.Proofs.Ytpkfjfpknbhekaa
