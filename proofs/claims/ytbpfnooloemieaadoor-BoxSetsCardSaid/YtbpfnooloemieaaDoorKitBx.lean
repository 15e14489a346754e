/- More base words: appends of one element to a row of the call's own; naturals as limbs or digits. Contracts of the document's answer sluicewayref1, part A: trim, From, Cmp, Bits. Contracts of the document's answer sluicewayref1, part C: Shl. -/
import Derived.Test.YtbpfnooloemieaaDoorBitsx
import Derived.Handy
import Derived.Deep.DeepCutAuto
import Derived.WalkMore
import Derived.Deep.CutBlock
import Derived.IntWalk
import Derived.Deep.RegionHeld3
import Derived.Deep.DrawnRows
namespace Go.Proofs.YtbpfnooloemieaaDoor
open Go.RowKit Pl

theorem new_one {w : World} {v : Value} {t : TypeId} : ∀ j u, [v][j]? = some u → (w.alloc (.cells #[v] t)).cell? ((⟨w.heap.size, 0, none⟩ : Addr).add j) = some u := by
  intro j u hj
  rcases j with _ | j
  · simp at hj
    subst hj
    simp [Addr.add, go_sem]
  · simp at hj
theorem one_int (K : IntKind) (x : Int) : ∀ u ∈ [Value.int K x], u.oneCell' = true := by
  intro u hu
  rw [List.mem_singleton] at hu
  subst hu
  rfl
theorem below_app {w wr w1 : World} {v : Value} {o : Obj} {e : TypeId} {n sz : Nat} {xs : List Value} (hbw : Below w.heap.size w wr) (hown : wr.ownsRow w.heap.size e sz v n xs) (hg : (wr.alloc o).grownBy w1 v.ownBlock) : Below w.heap.size w w1 :=
  (hbw.alloc hbw.size o).grown hg (by simp; have := hbw.size; omega) (fun k hk => (hown.lt k hk).1)
theorem base_app {w wr : World} {o : Obj} (hbw : Below w.heap.size w wr) : w.heap.size ≤ (wr.alloc o).heap.size := by
  simp; have := hbw.size; omega
theorem U_snoc (K : IntKind) (xs : List Nat) (x : Nat) (y : Int) (h : y = (x : Int)) : U K xs ++ [Value.int K y] = U K (xs ++ [x]) := by
  rw [h]; simp [U]
/-- The value behind an owned row: it is a slice. -/
theorem own_slice {w : World} {base n : Nat} {v : Value} {e : TypeId} {sz : Nat} {xs : List Value} (h : w.ownsRow base e sz v n xs) : ∃ A c, v = .slice A n c := by
  obtain ⟨_, ⟨hv, h0⟩ | ⟨g, cap, cur, hv, _⟩⟩ := h
  · exact ⟨none, 0, by rw [hv, h0]⟩
  · exact ⟨_, _, hv⟩

/-- A value that reads as a natural: digits of sixteen bits, limbs of sixty-four. -/
def R16 (w : World) (v : Value) (X : Nat) : Prop := ∃ A n c, v = .slice A n c ∧ RdN .u32 w A n c (limbs DD X)
def R64 (w : World) (v : Value) (X : Nat) : Prop := ∃ A n c, v = .slice A n c ∧ RdN .u64 w A n c (limbs BB X)
theorem R16.below {w w' : World} {v : Value} {X : Nat} (h : R16 w v X) (hb : Below w.heap.size w w') : R16 w' v X := by
  obtain ⟨A, n, c, hv, hr⟩ := h; exact ⟨A, n, c, hv, hr.below hb⟩
theorem R64.below {w w' : World} {v : Value} {X : Nat} (h : R64 w v X) (hb : Below w.heap.size w w') : R64 w' v X := by
  obtain ⟨A, n, c, hv, hr⟩ := h; exact ⟨A, n, c, hv, hr.below hb⟩
theorem R16.drewN {w : World} {v : Value} {X : Nat} (h : R16 w v X) (k : Nat) : R16 (w.drewN k) v X := by
  obtain ⟨A, n, c, hv, hr⟩ := h; exact ⟨A, n, c, hv, hr.drewN k⟩
theorem R16.drew {w : World} {v : Value} {X : Nat} (h : R16 w v X) : R16 w.drew v X := by
  obtain ⟨A, n, c, hv, hr⟩ := h; exact ⟨A, n, c, hv, hr.drew⟩
theorem R64.drewN {w : World} {v : Value} {X : Nat} (h : R64 w v X) (k : Nat) : R64 (w.drewN k) v X := by
  obtain ⟨A, n, c, hv, hr⟩ := h; exact ⟨A, n, c, hv, hr.drewN k⟩
theorem R64.drew {w : World} {v : Value} {X : Nat} (h : R64 w v X) : R64 w.drew v X := by
  obtain ⟨A, n, c, hv, hr⟩ := h; exact ⟨A, n, c, hv, hr.drew⟩
theorem R16.nil (w : World) : R16 w (.slice none 0 0) 0 := ⟨_, _, _, rfl, RdN.nil _ _⟩
theorem R64.nil (w : World) : R64 w (.slice none 0 0) 0 := ⟨_, _, _, rfl, RdN.nil _ _⟩
theorem below_then {w w1 w2 : World} (h : Below w.heap.size w w1) (h2 : Below w1.heap.size w1 w2) : Below w.heap.size w w2 := h.trans (h2.mono h.size)
/-! A region that draws its order, whose calls make memory but whose values are known: the class of all later worlds. -/
structure Ext (W : World) where
  w : World
  hb : Below W.heap.size W w
instance (W : World) : Nonempty (Ext W) := ⟨⟨W, Below.refl _ _⟩⟩
/-- A block whose first cells are known. -/
def Cells (w : World) (b : Nat) (vs : List Value) : Prop := b < w.heap.size ∧ ∀ j u, vs[j]? = some u → w.cell? ⟨b, j, none⟩ = some u
theorem Cells.below {w w' : World} {b : Nat} {vs : List Value} (h : Cells w b vs) (hb : Below w.heap.size w w') : Cells w' b vs :=
  ⟨Nat.lt_of_lt_of_le h.1 hb.size, fun j u hj => (hb.cell (p := ⟨b, j, none⟩) h.1).trans (h.2 j u hj)⟩
theorem Cells.drew {w : World} {b : Nat} {vs : List Value} (h : Cells w b vs) : Cells w.drew b vs := ⟨h.1, h.2⟩
theorem Cells.drewN {w : World} {b : Nat} {vs : List Value} (h : Cells w b vs) (k : Nat) : Cells (w.drewN k) b vs := ⟨h.1, h.2⟩
theorem Cells.ext {W : World} {b : Nat} {vs : List Value} (h : Cells W b vs) (j : Nat) (u : Value) (hj : vs[j]? = some u) : ∀ e : Ext W, e.w.cell? ⟨b, j, none⟩ = some u := fun e => (h.below e.hb).2 j u hj
theorem Cells.new {w : World} {t : TypeId} {vs : List Value} : Cells (w.alloc (.cells vs.toArray t)) w.heap.size vs :=
  ⟨by simp, fun j u hj => by rw [cell_of_row _ _ _ _ _ _ (heap_alloc_new w _)]; simpa using hj⟩
/-! A block that is known whole: a variable of the call's own. -/
def Box (w : World) (b : Nat) (vs : List Value) (t : TypeId) : Prop := w.heap[b]? = some (.cells vs.toArray t (0, 0))
theorem Box.lt {w : World} {b : Nat} {vs : List Value} {t : TypeId} (h : Box w b vs t) : b < w.heap.size := by
  rcases Nat.lt_or_ge b w.heap.size with h2 | h2
  · exact h2
  · unfold Box at h; rw [Array.getElem?_eq_none h2] at h; cases h
theorem Box.get {w : World} {b : Nat} {vs : List Value} {t : TypeId} (h : Box w b vs t) (j : Nat) : w.cell? ⟨b, j, none⟩ = vs[j]? := by
  rw [cell_of_row _ _ _ _ _ _ h]; simp
theorem Box.cell {w : World} {b : Nat} {vs : List Value} {t : TypeId} (h : Box w b vs t) (j : Nat) {u : Value} (hj : vs[j]? = some u) : w.cell? ⟨b, j, none⟩ = some u := by
  rw [h.get, hj]
theorem Box.frozen {w : World} {b : Nat} {vs : List Value} {t : TypeId} (h : Box w b vs t) (j : Nat) : w.frozen? ⟨b, j, none⟩ = false := by
  unfold Box at h
  simp [World.frozen?, h]
theorem Box.below {w w' : World} {b B : Nat} {vs : List Value} {t : TypeId} (h : Box w b vs t) (hb : Below B w w') (hB : b < B) : Box w' b vs t := by
  unfold Box at *
  rw [hb.block b hB]; exact h
theorem Box.keep {w w' : World} {b : Nat} {vs : List Value} {t : TypeId} (h : Box w b vs t) (hb : Below w.heap.size w w') : Box w' b vs t := h.below hb h.lt
theorem Box.drew {w : World} {b : Nat} {vs : List Value} {t : TypeId} (h : Box w b vs t) : Box w.drew b vs t := h
theorem Box.drewN {w : World} {b : Nat} {vs : List Value} {t : TypeId} (h : Box w b vs t) (k : Nat) : Box (w.drewN k) b vs t := h
theorem Box.new (w : World) (vs : List Value) (t : TypeId) : Box (w.alloc (.cells vs.toArray t)) w.heap.size vs t := heap_alloc_new w _
theorem Box.set {w : World} {b : Nat} {vs : List Value} {t : TypeId} (h : Box w b vs t) (j : Nat) (v : Value) : Box (w.setCell ⟨b, j, none⟩ v) b (vs.set j v) t := by
  unfold Box at *
  simp [World.setCell, Array.getElem?_modify, h]
theorem Box.far {w : World} {b g : Nat} {vs : List Value} {t : TypeId} (h : Box w b vs t) (hne : b ≠ g) (j : Nat) (v : Value) : Box (w.setCell ⟨g, j, none⟩ v) b vs t := by
  unfold Box at *
  rw [Below.heap_setCell _ _ _ _ hne]; exact h
theorem Box.ext {W : World} {b : Nat} {vs : List Value} {t : TypeId} (h : Box W b vs t) (j : Nat) {u : Value} (hj : vs[j]? = some u) : ∀ e : Ext W, e.w.cell? ⟨b, j, none⟩ = some u := fun e => (h.keep e.hb).cell j hj
/-- Numbers lie elsewhere than in a box that holds none of their kind. -/
theorem RdN.apart {K : IntKind} {w : World} {A : Option Addr} {n c : Nat} {xs : List Nat} (h : RdN K w A n c xs) {g : Nat} {vs : List Value} {t : TypeId} (hB : Box w g vs t) (hno : ∀ x, .int K x ∉ vs) (j : Nat) (v : Value) :
    RdN K (w.setCell ⟨g, j, none⟩ v) A n c xs :=
  ⟨h.len, h.cap, h.max, fun hn => by
    obtain ⟨b, off, e, hb, hc⟩ := h.at_ hn
    have hne : b ≠ g := by
      rintro rfl
      have h1 := hc 0 hn
      rw [hB.get] at h1
      exact hno _ (List.mem_of_getElem? h1)
    refine ⟨b, off, e, by simpa [World.setCell] using hb, fun k hk => ?_⟩
    rw [World.cell?_setCell_other _ _ _ _ (by intro e; injection e with e; exact hne e.symm)]
    exact hc k hk⟩
section
variable {w : World} {g : Nat} {a b c : Value} {t : TypeId}
theorem Box.store3 (h : Box w g [a, b, c] t) (v0 v1 v2 : Value) : Box (((w.setCell ⟨g, 0, none⟩ v0).setCell ⟨g, 1, none⟩ v1).setCell ⟨g, 2, none⟩ v2) g [v0, v1, v2] t := ((h.set 0 v0).set 1 v1).set 2 v2
theorem RdN.store3 {K : IntKind} {A : Option Addr} {n m : Nat} {xs : List Nat} (h : RdN K w A n m xs) (hB : Box w g [a, b, c] t) (v0 v1 v2 : Value) (h0 : ∀ x, .int K x ∉ [a, b, c]) (h1 : ∀ x, .int K x ∉ [v0, v1, v2]) :
    RdN K (((w.setCell ⟨g, 0, none⟩ v0).setCell ⟨g, 1, none⟩ v1).setCell ⟨g, 2, none⟩ v2) A n m xs := by
  simp only [List.mem_cons, List.not_mem_nil, or_false, not_or] at h0 h1
  refine RdN.apart (RdN.apart (RdN.apart h hB ?_ _ _) (hB.set 0 v0) ?_ _ _) ((hB.set 0 v0).set 1 v1) ?_ _ _
  · intro x hx; have := h0 x; simp at hx; rcases hx with e | e | e <;> simp_all
  · intro x hx; have := h0 x; have := h1 x; simp at hx; rcases hx with e | e | e <;> simp_all
  · intro x hx; have := h0 x; have := h1 x; simp at hx; rcases hx with e | e | e <;> simp_all
theorem Box.far3 {b' : Nat} {vs : List Value} {t' : TypeId} (h : Box w b' vs t') (hne : b' ≠ g) (v0 v1 v2 : Value) : Box (((w.setCell ⟨g, 0, none⟩ v0).setCell ⟨g, 1, none⟩ v1).setCell ⟨g, 2, none⟩ v2) b' vs t' := ((h.far hne _ _).far hne _ _).far hne _ _
theorem below_store3 {B : Nat} {w0 : World} (h : Below B w0 w) (hB : B ≤ g) (v0 v1 v2 : Value) : Below B w0 (((w.setCell ⟨g, 0, none⟩ v0).setCell ⟨g, 1, none⟩ v1).setCell ⟨g, 2, none⟩ v2) := ((h.setCell (p := ⟨g, 0, none⟩) hB _).setCell (p := ⟨g, 1, none⟩) hB _).setCell (p := ⟨g, 2, none⟩) hB _
end
theorem box_1 (w : World) (vs : List Value) (t : TypeId) : Box (w.alloc (.cells vs.toArray t)) w.heap.size vs t ∧ Below w.heap.size w (w.alloc (.cells vs.toArray t)) := ⟨Box.new _ _ _, by go_grown⟩
theorem box_2 (w : World) (us vs : List Value) (t1 t2 : TypeId) : Box ((w.alloc (.cells us.toArray t1)).alloc (.cells vs.toArray t2)) w.heap.size us t1 ∧ Box ((w.alloc (.cells us.toArray t1)).alloc (.cells vs.toArray t2)) (w.heap.size + 1) vs t2 ∧
    Below w.heap.size w ((w.alloc (.cells us.toArray t1)).alloc (.cells vs.toArray t2)) := by
  have h2 := Box.new (w.alloc (.cells us.toArray t1)) vs t2
  have e : (w.alloc (.cells us.toArray t1)).heap.size = w.heap.size + 1 := by simp
  rw [e] at h2
  exact ⟨(Box.new w us t1).keep (by go_grown), h2, by go_grown⟩
theorem box_3 (w : World) (us vs ys : List Value) (t1 t2 t3 : TypeId) : Box (((w.alloc (.cells us.toArray t1)).alloc (.cells vs.toArray t2)).alloc (.cells ys.toArray t3)) w.heap.size us t1 ∧ Box (((w.alloc (.cells us.toArray t1)).alloc (.cells vs.toArray t2)).alloc (.cells ys.toArray t3)) (w.heap.size + 1) vs t2 ∧
    Box (((w.alloc (.cells us.toArray t1)).alloc (.cells vs.toArray t2)).alloc (.cells ys.toArray t3)) (w.heap.size + 1 + 1) ys t3 ∧ Below w.heap.size w (((w.alloc (.cells us.toArray t1)).alloc (.cells vs.toArray t2)).alloc (.cells ys.toArray t3)) := by
  obtain ⟨h1, h2, h3⟩ := box_2 w us vs t1 t2
  have h4 := Box.new ((w.alloc (.cells us.toArray t1)).alloc (.cells vs.toArray t2)) ys t3
  have e : ((w.alloc (.cells us.toArray t1)).alloc (.cells vs.toArray t2)).heap.size = w.heap.size + 1 + 1 := by simp
  rw [e] at h4
  exact ⟨h1.keep (by go_grown), h2.keep (by go_grown), h4, by go_grown⟩
end Go.Proofs.YtbpfnooloemieaaDoor
namespace Go.Proofs.YtbpfnooloemieaaDoor
open Go.RowKit Pl

end Go.Proofs.YtbpfnooloemieaaDoor
namespace Go.Proofs.YtbpfnooloemieaaDoor
open Go.RowKit Pl

end Go.Proofs.YtbpfnooloemieaaDoor
