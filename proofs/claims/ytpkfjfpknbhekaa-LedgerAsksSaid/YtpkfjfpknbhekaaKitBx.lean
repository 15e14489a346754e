/- More base words: appends of one element to a row of the call's own; naturals as limbs or digits. Contracts of the document's answer sluicewayref1, part A: trim, From, Cmp, Bits. Contracts of the document's answer sluicewayref1, part C: Shl. -/
import Derived.Test.YtpkfjfpknbhekaaBitsx
import Derived.Handy
import Derived.Deep.DeepCutAuto
import Derived.WalkMore
import Derived.Deep.CutBlock
import Derived.IntWalk
import Derived.Deep.RegionHeld3
import Derived.Deep.DrawnRows
namespace Go.Proofs.Ytpkfjfpknbhekaa
open Go.RowKit Pl

theorem new_one {w : World} {v : Value} {t : TypeId} : ∀ j u, [v][j]? = some u → (w.alloc (.cells #[v] t)).cell? ((⟨w.heap.size, 0, none⟩ : Addr).add j) = some u := by
  intro j u hj
  rcases j with _ | j
  · simp at hj
    subst hj
    simp [Addr.add, go_sem]
  · simp at hj
theorem one_int (K : IntKind) (x : Int) : ∀ u ∈ [Value.int K x], u.oneCell' = true := by
  intro u hu
  rw [List.mem_singleton] at hu
  subst hu
  rfl
theorem below_app {w wr w1 : World} {v : Value} {o : Obj} {e : TypeId} {n sz : Nat} {xs : List Value} (hbw : Below w.heap.size w wr) (hown : wr.ownsRow w.heap.size e sz v n xs) (hg : (wr.alloc o).grownBy w1 v.ownBlock) : Below w.heap.size w w1 :=
  (hbw.alloc hbw.size o).grown hg (by simp; have := hbw.size; omega) (fun k hk => (hown.lt k hk).1)
theorem base_app {w wr : World} {o : Obj} (hbw : Below w.heap.size w wr) : w.heap.size ≤ (wr.alloc o).heap.size := by
  simp; have := hbw.size; omega
theorem ret_slice {A : Option Addr} {n m c : Nat} (h : n = m) : Ending.returned (.slice A n c) = .returned (.slice A m c) := by rw [h]
theorem U_snoc (K : IntKind) (xs : List Nat) (x : Nat) (y : Int) (h : y = (x : Int)) : U K xs ++ [Value.int K y] = U K (xs ++ [x]) := by
  rw [h]; simp [U]
/-- The value behind an owned row: it is a slice. -/
theorem own_slice {w : World} {base n : Nat} {v : Value} {e : TypeId} {sz : Nat} {xs : List Value} (h : w.ownsRow base e sz v n xs) : ∃ A c, v = .slice A n c := by
  obtain ⟨_, ⟨hv, h0⟩ | ⟨g, cap, cur, hv, _⟩⟩ := h
  · exact ⟨none, 0, by rw [hv, h0]⟩
  · exact ⟨_, _, hv⟩

/-- A value that reads as a natural: digits of sixteen bits, limbs of sixty-four. -/
def R16 (w : World) (v : Value) (X : Nat) : Prop := ∃ A n c, v = .slice A n c ∧ RdN .u32 w A n c (limbs DD X)
def R64 (w : World) (v : Value) (X : Nat) : Prop := ∃ A n c, v = .slice A n c ∧ RdN .u64 w A n c (limbs BB X)
theorem R16.below {w w' : World} {v : Value} {X : Nat} (h : R16 w v X) (hb : Below w.heap.size w w') : R16 w' v X := by
  obtain ⟨A, n, c, hv, hr⟩ := h; exact ⟨A, n, c, hv, hr.below hb⟩
theorem R64.below {w w' : World} {v : Value} {X : Nat} (h : R64 w v X) (hb : Below w.heap.size w w') : R64 w' v X := by
  obtain ⟨A, n, c, hv, hr⟩ := h; exact ⟨A, n, c, hv, hr.below hb⟩
theorem R16.drewN {w : World} {v : Value} {X : Nat} (h : R16 w v X) (k : Nat) : R16 (w.drewN k) v X := by
  obtain ⟨A, n, c, hv, hr⟩ := h; exact ⟨A, n, c, hv, hr.drewN k⟩
theorem R16.drew {w : World} {v : Value} {X : Nat} (h : R16 w v X) : R16 w.drew v X := by
  obtain ⟨A, n, c, hv, hr⟩ := h; exact ⟨A, n, c, hv, hr.drew⟩
theorem R64.drewN {w : World} {v : Value} {X : Nat} (h : R64 w v X) (k : Nat) : R64 (w.drewN k) v X := by
  obtain ⟨A, n, c, hv, hr⟩ := h; exact ⟨A, n, c, hv, hr.drewN k⟩
theorem R64.drew {w : World} {v : Value} {X : Nat} (h : R64 w v X) : R64 w.drew v X := by
  obtain ⟨A, n, c, hv, hr⟩ := h; exact ⟨A, n, c, hv, hr.drew⟩
theorem R16.nil (w : World) : R16 w (.slice none 0 0) 0 := ⟨_, _, _, rfl, RdN.nil _ _⟩
theorem R64.nil (w : World) : R64 w (.slice none 0 0) 0 := ⟨_, _, _, rfl, RdN.nil _ _⟩
theorem below_then {w w1 w2 : World} (h : Below w.heap.size w w1) (h2 : Below w1.heap.size w1 w2) : Below w.heap.size w w2 := h.trans (h2.mono h.size)
theorem RdN.len_dig {w : World} {A : Option Addr} {n c X k : Nat} (h : RdN .u32 w A n c (limbs DD X)) (hX : X < DD ^ k) : n ≤ k := by
  rw [← h.len]; exact (limbs_len_le DD_gt1).2 hX
/-! A region that draws its order, whose calls make memory but whose values are known: the class of all later worlds. -/
structure Ext (W : World) where
  w : World
  hb : Below W.heap.size W w
instance (W : World) : Nonempty (Ext W) := ⟨⟨W, Below.refl _ _⟩⟩
theorem wp_region_ext {id : Nat} {Q : Exit → Act → World → Prop} {a : Act} {w : World} {l : List Oper} (W : World) (hW : Below W.heap.size W w) (hB : Region.lexB .any l.toArray = true)
    (h : wpQuiet Try.prog l.toArray (fun w' => ∃ e : Ext W, w' = e.w) (fun a' => ∀ w', (∃ e : Ext W, w' = e.w) → Q .normal a' w') l a) : (Code.region id l.toArray true).wp Try.prog Q a w :=
  wp_region_quiet (C := fun w' => ∃ e : Ext W, w' = e.w) (by kernel_rfl) hB ⟨⟨w.drew, hW.drew⟩, rfl⟩ (by simpa using h)
theorem calls_ext {W : World} {e : Ext W} {f : FuncId} {args : Array Value} {v : Value} (h : Calls Try.prog f args e.w fun x w' => x = .returned v ∧ Below e.w.heap.size e.w w') :
    Calls Try.prog f args e.w fun x w'' => x = .returned v ∧ ∃ e' : Ext W, w'' = e'.w :=
  h.mono fun _ w' ⟨hx, hb⟩ => ⟨hx, ⟨w', below_then e.hb hb⟩, rfl⟩
/-- A block whose first cells are known. -/
def Cells (w : World) (b : Nat) (vs : List Value) : Prop := b < w.heap.size ∧ ∀ j u, vs[j]? = some u → w.cell? ⟨b, j, none⟩ = some u
theorem Cells.below {w w' : World} {b : Nat} {vs : List Value} (h : Cells w b vs) (hb : Below w.heap.size w w') : Cells w' b vs :=
  ⟨Nat.lt_of_lt_of_le h.1 hb.size, fun j u hj => (hb.cell (p := ⟨b, j, none⟩) h.1).trans (h.2 j u hj)⟩
theorem Cells.drew {w : World} {b : Nat} {vs : List Value} (h : Cells w b vs) : Cells w.drew b vs := ⟨h.1, h.2⟩
theorem Cells.drewN {w : World} {b : Nat} {vs : List Value} (h : Cells w b vs) (k : Nat) : Cells (w.drewN k) b vs := ⟨h.1, h.2⟩
theorem Cells.ext {W : World} {b : Nat} {vs : List Value} (h : Cells W b vs) (j : Nat) (u : Value) (hj : vs[j]? = some u) : ∀ e : Ext W, e.w.cell? ⟨b, j, none⟩ = some u := fun e => (h.below e.hb).2 j u hj
theorem Cells.new {w : World} {t : TypeId} {vs : List Value} : Cells (w.alloc (.cells vs.toArray t)) w.heap.size vs :=
  ⟨by simp, fun j u hj => by rw [cell_of_row _ _ _ _ _ _ (heap_alloc_new w _)]; simpa using hj⟩
theorem box1 (w : World) (t1 : TypeId) (us : List Value) : Cells (w.alloc (.cells us.toArray t1)) w.heap.size us ∧ Below w.heap.size w (w.alloc (.cells us.toArray t1)) := ⟨Cells.new, by go_grown⟩

/-! A block that is known whole: a variable of the call's own. -/
def Box (w : World) (b : Nat) (vs : List Value) (t : TypeId) : Prop := w.heap[b]? = some (.cells vs.toArray t (0, 0))
theorem Box.lt {w : World} {b : Nat} {vs : List Value} {t : TypeId} (h : Box w b vs t) : b < w.heap.size := by
  rcases Nat.lt_or_ge b w.heap.size with h2 | h2
  · exact h2
  · unfold Box at h; rw [Array.getElem?_eq_none h2] at h; cases h
theorem Box.get {w : World} {b : Nat} {vs : List Value} {t : TypeId} (h : Box w b vs t) (j : Nat) : w.cell? ⟨b, j, none⟩ = vs[j]? := by
  rw [cell_of_row _ _ _ _ _ _ h]; simp
theorem Box.cell {w : World} {b : Nat} {vs : List Value} {t : TypeId} (h : Box w b vs t) (j : Nat) {u : Value} (hj : vs[j]? = some u) : w.cell? ⟨b, j, none⟩ = some u := by
  rw [h.get, hj]
theorem Box.frozen {w : World} {b : Nat} {vs : List Value} {t : TypeId} (h : Box w b vs t) (j : Nat) : w.frozen? ⟨b, j, none⟩ = false := by
  unfold Box at h
  simp [World.frozen?, h]
theorem Box.below {w w' : World} {b B : Nat} {vs : List Value} {t : TypeId} (h : Box w b vs t) (hb : Below B w w') (hB : b < B) : Box w' b vs t := by
  unfold Box at *
  rw [hb.block b hB]; exact h
theorem Box.keep {w w' : World} {b : Nat} {vs : List Value} {t : TypeId} (h : Box w b vs t) (hb : Below w.heap.size w w') : Box w' b vs t := h.below hb h.lt
theorem Box.drew {w : World} {b : Nat} {vs : List Value} {t : TypeId} (h : Box w b vs t) : Box w.drew b vs t := h
theorem Box.drewN {w : World} {b : Nat} {vs : List Value} {t : TypeId} (h : Box w b vs t) (k : Nat) : Box (w.drewN k) b vs t := h
theorem Box.new (w : World) (vs : List Value) (t : TypeId) : Box (w.alloc (.cells vs.toArray t)) w.heap.size vs t := heap_alloc_new w _
theorem Box.set {w : World} {b : Nat} {vs : List Value} {t : TypeId} (h : Box w b vs t) (j : Nat) (v : Value) : Box (w.setCell ⟨b, j, none⟩ v) b (vs.set j v) t := by
  unfold Box at *
  simp [World.setCell, Array.getElem?_modify, h]
theorem Box.far {w : World} {b g : Nat} {vs : List Value} {t : TypeId} (h : Box w b vs t) (hne : b ≠ g) (j : Nat) (v : Value) : Box (w.setCell ⟨g, j, none⟩ v) b vs t := by
  unfold Box at *
  rw [Below.heap_setCell _ _ _ _ hne]; exact h
theorem Box.cellE {W : World} {b B : Nat} {vs : List Value} {t : TypeId} (h : Box W b vs t) (hB : b < B) (j : Nat) {u : Value} (hj : vs[j]? = some u) : ∀ w', Below B W w' → w'.cell? ⟨b, j, none⟩ = some u := fun _ hb => (h.below hb hB).cell j hj
theorem Box.ext {W : World} {b : Nat} {vs : List Value} {t : TypeId} (h : Box W b vs t) (j : Nat) {u : Value} (hj : vs[j]? = some u) : ∀ e : Ext W, e.w.cell? ⟨b, j, none⟩ = some u := fun e => (h.keep e.hb).cell j hj
/-- Numbers lie elsewhere than in a box that holds none of their kind. -/
theorem RdN.apart {K : IntKind} {w : World} {A : Option Addr} {n c : Nat} {xs : List Nat} (h : RdN K w A n c xs) {g : Nat} {vs : List Value} {t : TypeId} (hB : Box w g vs t) (hno : ∀ x, .int K x ∉ vs) (j : Nat) (v : Value) :
    RdN K (w.setCell ⟨g, j, none⟩ v) A n c xs :=
  ⟨h.len, h.cap, h.max, fun hn => by
    obtain ⟨b, off, e, hb, hc⟩ := h.at_ hn
    have hne : b ≠ g := by
      rintro rfl
      have h1 := hc 0 hn
      rw [hB.get] at h1
      exact hno _ (List.mem_of_getElem? h1)
    refine ⟨b, off, e, by simpa [World.setCell] using hb, fun k hk => ?_⟩
    rw [World.cell?_setCell_other _ _ _ _ (by intro e; injection e with e; exact hne e.symm)]
    exact hc k hk⟩
section
variable {w : World} {g : Nat} {a b c : Value} {t : TypeId}
theorem Box.store3 (h : Box w g [a, b, c] t) (v0 v1 v2 : Value) : Box (((w.setCell ⟨g, 0, none⟩ v0).setCell ⟨g, 1, none⟩ v1).setCell ⟨g, 2, none⟩ v2) g [v0, v1, v2] t := ((h.set 0 v0).set 1 v1).set 2 v2
theorem RdN.store3 {K : IntKind} {A : Option Addr} {n m : Nat} {xs : List Nat} (h : RdN K w A n m xs) (hB : Box w g [a, b, c] t) (v0 v1 v2 : Value) (h0 : ∀ x, .int K x ∉ [a, b, c]) (h1 : ∀ x, .int K x ∉ [v0, v1, v2]) :
    RdN K (((w.setCell ⟨g, 0, none⟩ v0).setCell ⟨g, 1, none⟩ v1).setCell ⟨g, 2, none⟩ v2) A n m xs := by
  simp only [List.mem_cons, List.not_mem_nil, or_false, not_or] at h0 h1
  refine RdN.apart (RdN.apart (RdN.apart h hB ?_ _ _) (hB.set 0 v0) ?_ _ _) ((hB.set 0 v0).set 1 v1) ?_ _ _
  · intro x hx; have := h0 x; simp at hx; rcases hx with e | e | e <;> simp_all
  · intro x hx; have := h0 x; have := h1 x; simp at hx; rcases hx with e | e | e <;> simp_all
  · intro x hx; have := h0 x; have := h1 x; simp at hx; rcases hx with e | e | e <;> simp_all
theorem below_store3 {B : Nat} {w0 : World} (h : Below B w0 w) (hB : B ≤ g) (v0 v1 v2 : Value) : Below B w0 (((w.setCell ⟨g, 0, none⟩ v0).setCell ⟨g, 1, none⟩ v1).setCell ⟨g, 2, none⟩ v2) := ((h.setCell (p := ⟨g, 0, none⟩) hB _).setCell (p := ⟨g, 1, none⟩) hB _).setCell (p := ⟨g, 2, none⟩) hB _
end
theorem box_2 (w : World) (us vs : List Value) (t1 t2 : TypeId) : Box ((w.alloc (.cells us.toArray t1)).alloc (.cells vs.toArray t2)) w.heap.size us t1 ∧ Box ((w.alloc (.cells us.toArray t1)).alloc (.cells vs.toArray t2)) (w.heap.size + 1) vs t2 ∧
    Below w.heap.size w ((w.alloc (.cells us.toArray t1)).alloc (.cells vs.toArray t2)) := by
  have h2 := Box.new (w.alloc (.cells us.toArray t1)) vs t2
  have e : (w.alloc (.cells us.toArray t1)).heap.size = w.heap.size + 1 := by simp
  rw [e] at h2
  exact ⟨(Box.new w us t1).keep (by go_grown), h2, by go_grown⟩
end Go.Proofs.Ytpkfjfpknbhekaa
namespace Go.Proofs.Ytpkfjfpknbhekaa
open Go.RowKit Pl

theorem info_u32 : (Try.prog.info? 131).map (fun i => (i.zero, i.size, i.bytes)) = some (some (.int .u32 0), 1, 4) := by kernel_rfl
theorem made_u32 (n : Nat) : (madeCells #[Value.int .u32 0] n).toList = U .u32 (List.replicate n 0) := by
  rw [← U_zeros]
  exact toList_madeCells_one _ _

set_option maxHeartbeats 1000000 in
theorem rtrim_at (A : Option Addr) (n c : Nat) (xs : List Nat) (w : World) (h : RdN .u32 w A n c xs) :
    Calls Try.prog 103 #[.slice A n c] w fun e w' => ∃ A' c', e = .returned (.slice A' (trimL xs).length c') ∧ (RdN .u32 w A' (trimL xs).length c' (trimL xs) ∧ (0 < (trimL xs).length → A' = A)) ∧ w = w' := by
  have h' := h
  obtain ⟨hlen, hcap, hmax, hat⟩ := h
  unfold maxLen at hmax
  subst hlen
  have HR := hide h'
  clear h'
  go_enter Try.func103, Try.ntmps103
  go_wp2
  go_loop [3] (fun a => ∃ m : Nat, m ≤ xs.length ∧ a = .int .i64 (m : Int) ∧ Hid (trimL (xs.take m) = trimL xs)) (fun a => (intOf a).toNat)
  case atStart => exact ⟨xs.length, Nat.le_refl _, rfl, by rw [List.take_length]; exact hide rfl⟩
  case round =>
    obtain ⟨m, hm, rfl, hT⟩ := hrel
    rcases Nat.eq_zero_or_pos m with rfl | hpos
    · have hT' := hT.out
      rw [List.take_zero] at hT'
      have hE : Hid ((trimL xs).length = 0) := by rw [← hT']; exact hide rfl
      have hN : Hid (trimL xs = []) := hT'.symm
      clear hT' hT
      rcases A with _ | ⟨b, o, i⟩
      · go_wp2
        go_ret
        exact ⟨none, c, ret_slice hE.out.symm, ⟨by rw [hE.out, hN.out]; exact RdN.empty _ _ _ _ (by unfold maxLen; omega), fun _ => rfl⟩, rfl⟩
      · go_wp2
        go_ret
        exact ⟨_, c, ret_slice hE.out.symm, ⟨by rw [hE.out, hN.out]; exact RdN.empty _ _ _ _ (by unfold maxLen; omega), fun h => by have := hE.out; omega⟩, rfl⟩
    · obtain ⟨k, rfl⟩ : ∃ k, m = k + 1 := ⟨m - 1, by omega⟩
      obtain ⟨b, off, rfl, hb, hc⟩ := hat (by omega)
      have hcell := hc k (by omega)
      by_cases hk : nth xs k = 0
      · have e1 : ((nth xs k : Int) == 0) = true := by simp [hk]
        have e2 := hide (trimL_step_zero hm hk)
        clear hat
        go_wp2
        go_round
        case rel => exact ⟨k, by omega, by go_num, hide (e2.out.symm.trans hT.out)⟩
        case measure => simp [intOf]
      · have e1 : ((nth xs k : Int) == 0) = false := by simp; omega
        have e2 := hide (trimL_step_done hm hk)
        clear hat
        go_wp2
        go_ret
        have h2 := e2.out
        rw [hT.out] at h2
        refine ⟨_, c, ret_slice h2.symm, ⟨?_, fun _ => rfl⟩, rfl⟩
        have h3 := HR.out.take (m := (trimL xs).length) (trimL_len xs)
        rw [← trimL_take] at h3
        exact h3
theorem rtrim_any (A : Option Addr) (n c : Nat) (xs : List Nat) (w : World) (h : RdN .u32 w A n c xs) :
    Calls Try.prog 103 #[.slice A n c] w fun e w' => ∃ A' c', e = .returned (.slice A' (trimL xs).length c') ∧ RdN .u32 w A' (trimL xs).length c' (trimL xs) ∧ w = w' :=
  (rtrim_at A n c xs w h).mono fun _ _ ⟨A', c', he, ⟨hr, _⟩, hw⟩ => ⟨A', c', he, hr, hw⟩

/-- Sixteen bits of a word. -/
theorem dig16 {x j : Nat} (hj : j < 4) : bits .and .u32 ((x : Int) / 2 ^ (16 * j) % 4294967296) 65535 = (((parts x).getD j 0 : Nat) : Int) := by
  have e1 : ((x : Int) / 2 ^ (16 * j)) = ((x / 2 ^ (16 * j) : Nat) : Int) := by rw [Int.natCast_ediv, Int.natCast_pow]; rfl
  have e2 : ((x / 2 ^ (16 * j) : Nat) : Int) % 4294967296 = ((x / 2 ^ (16 * j) % 4294967296 : Nat) : Int) := by omega
  have e3 := u32_and_nat (x / 2 ^ (16 * j) % 4294967296) 65535 (Nat.mod_lt _ (by omega)) (by omega)
  rw [nat_mask16] at e3
  rw [e1, e2]
  refine e3.trans ?_
  have e4 : (parts x).getD j 0 = x / 2 ^ (16 * j) % DD := by
    have hD : ∀ k, DD ^ k = 2 ^ (16 * k) := pow_DD
    rcases (show j = 0 ∨ j = 1 ∨ j = 2 ∨ j = 3 by omega) with rfl | rfl | rfl | rfl
    · simp [parts]
    · simp [parts, DD]
    · simp [parts, DD]
    · simp [parts, DD]
  rw [e4]
  unfold DD
  omega
theorem parts_len (x : Nat) : (parts x).length = 4 := rfl

set_option maxRecDepth 100000 in
set_option maxHeartbeats 1000000 in
theorem from_any (A : Option Addr) (n c : Nat) (xs : List Nat) (w : World) (h : RdN .u64 w A n c xs) (hl : Lim BB xs) (hn : n ≤ 100000) :
    Calls Try.prog 99 #[.slice A n c] w fun e w' => ∃ A' n' c', e = .returned (.slice A' n' c') ∧ RdN .u32 w' A' n' c' (limbs DD (val BB xs)) ∧ Below w.heap.size w w' := by
  obtain ⟨hlen, hcap, hmax, hat⟩ := h
  unfold maxLen at hmax
  subst hlen
  obtain ⟨i0, hi, hz0, hz1, hz2⟩ := info_parts info_u32
  go_enter Try.func99, Try.ntmps99
  go_wp2
  go_loopw [3, 4] (fun v i wr => ∃ k : Nat, k ≤ xs.length ∧ i = .int .i64 (k : Int) ∧ wr.ownsRow w.heap.size 131 1 v (4 * k) (U .u32 ((xs.take k).flatMap parts)) ∧ Below w.heap.size w wr) (fun _ i _ => xs.length - (intOf i).toNat)
  case atStart => exact ⟨0, Nat.zero_le _, rfl, World.ownsRow_nil _ _ _ _, Below.refl _ _⟩
  case round =>
    obtain ⟨k, hk, rfl, hown, hbw⟩ := hrel
    rcases Nat.lt_or_ge k xs.length with hlt | hge
    · obtain ⟨b, off, rfl, hb, hc⟩ := hat (by omega)
      go_wp2
      obtain ⟨wo, rfl⟩ : ∃ wo : World, wo = wr := ⟨_, rfl⟩
      go_loopw [3, 5] (fun v j wr => ∃ i : Nat, i ≤ 4 ∧ j = .int .i64 (i : Int) ∧ wr.ownsRow w.heap.size 131 1 v (4 * k + i) (U .u32 ((xs.take k).flatMap parts ++ (parts (nth xs k)).take i)) ∧ Below w.heap.size w wr) (fun _ j _ => 4 - (intOf j).toNat)
      case atStart => exact ⟨0, by omega, rfl, by simpa using hown, hbw⟩
      case round =>
        obtain ⟨j, hj, rfl, hown, hbw⟩ := hrel
        have hcell := RdN.cellW hc hb hbw k hlt
        rcases Nat.lt_or_ge j 4 with hjl | hjg
        · go_wp2_with (at_builtin; go_loud (refine wpList_append_own _ rfl _ _ 117 rfl w.heap.size 131 i0 (.int .u32 0) 1 4 Try.underlying117 hi hz0 hz1 hz2 rfl (by decide) _ _ _ rfl (hown.alloc _) ⟨wr.heap.size, 0, none⟩ 1 1 [.int .u32 (bits .and .u32 ((nth xs k : Int) / 2 ^ (16 * j) % 4294967296) 65535)] rfl rfl ?c1 ?c2 ?c3 ?c4 ?c5 ?_))
          case c1 => exact new_one
          case c2 => exact one_int _ _
          case c3 => unfold maxLen; omega
          case c4 => omega
          case c5 => exact base_app hbw
          intro v' w1 hown1 hg1 _
          have hb1 := below_app hbw hown hg1
          rw [U_snoc _ _ _ _ (dig16 (x := nth xs k) hjl)] at hown1
          clear hown hbw hg1
          go_wp2
          go_roundw
          case rel => exact ⟨j + 1, by omega, by go_num, by
            rw [List.take_succ_eq_append_getElem (by rw [parts_len]; omega), ← List.append_assoc]
            have e : (parts (nth xs k))[j]'(by rw [parts_len]; omega) = (parts (nth xs k)).getD j 0 := by rw [List.getD_eq_getElem?_getD, List.getElem?_eq_getElem (by rw [parts_len]; omega)]; rfl
            rw [e]
            exact hown1, hb1⟩
          case measure => simp [intOf]; omega
        · obtain rfl : j = 4 := by omega
          rw [show List.take 4 (parts (nth xs k)) = parts (nth xs k) from rfl] at hown
          go_wp2
          go_roundw
          case rel => exact ⟨k + 1, by omega, by go_num, by
            rw [List.take_succ_eq_append_getElem hlt, List.flatMap_append, List.flatMap_singleton]
            have e : xs[k] = nth xs k := by simp [nth, List.getD_eq_getElem?_getD, hlt]
            rw [e]
            exact hown, hbw⟩
          case measure => simp [intOf]; omega
    · obtain rfl : k = xs.length := by omega
      rw [List.take_length] at hown
      obtain ⟨A', c', rfl⟩ := own_slice hown
      have hrd := RdN.of_own hown
      have HV := hide (val_parts hl)
      go_wp2_with (go_at_call 103; refine (rtrim_any _ _ _ _ _ hrd).mono ?_; rintro e w' ⟨A2, c2, rfl, hr2, rfl⟩)
      go_ret
      refine ⟨_, _, _, rfl, ?_, hbw⟩
      rw [trimL_limbs DD_gt1 (lim_parts xs), HV.out] at hr2 ⊢
      exact hr2

set_option maxHeartbeats 1000000 in
theorem rcmp_any (A : Option Addr) (n c : Nat) (xs : List Nat) (B : Option Addr) (m d : Nat) (ys : List Nat) (w : World) (h : RdN .u32 w A n c xs) (k : RdN .u32 w B m d ys) :
    Calls Try.prog 97 #[.slice A n c, .slice B m d] w fun e w' => e = .returned (.int .i64 (cmpL xs ys)) ∧ Below w.heap.size w w' := by
  obtain ⟨hlen, hcap, hmax, hat⟩ := h
  obtain ⟨klen, kcap, kmax, kat⟩ := k
  unfold maxLen at hmax kmax
  subst hlen klen
  by_cases hl : xs.length = ys.length
  · have hres : Hid (cmpL xs ys = cmpFrom xs ys xs.length) := by unfold cmpL; rw [if_neg (by omega), if_neg (by omega)]; exact hide rfl
    have el' : ((xs.length : Int) != (ys.length : Int)) = false := by simp [hl]
    have hl' : ys.length ≤ xs.length ∧ xs.length ≤ ys.length := by omega
    clear hl
    obtain ⟨hl1, hl2⟩ := hl'
    go_enter Try.func97, Try.ntmps97
    go_wp2
    go_loopw [5] (fun i wr => ∃ q : Nat, q ≤ xs.length ∧ i = .int .i64 ((q : Int) - 1) ∧ Hid (cmpFrom xs ys q = cmpL xs ys) ∧ Below w.heap.size w wr) (fun i _ => (intOf i + 1).toNat)
    case atStart => exact ⟨xs.length, Nat.le_refl _, rfl, hide hres.out.symm, Below.refl _ _⟩
    case round =>
      obtain ⟨q, hq, rfl, hT, hbw⟩ := hrel
      rcases Nat.eq_zero_or_pos q with rfl | hpos
      · go_wp2
        go_ret
        exact ⟨ret_int hT.out, hbw⟩
      · obtain ⟨j, rfl⟩ : ∃ j, q = j + 1 := ⟨q - 1, by omega⟩
        obtain ⟨b, off, rfl, hb, hc⟩ := hat (by omega)
        obtain ⟨b2, off2, rfl, hb2, hc2⟩ := kat (by omega)
        have hcell := RdN.cellW hc hb hbw j (by omega)
        have hcell2 := RdN.cellW hc2 hb2 hbw j (by omega)
        clear hat kat hc hc2
        have ej : (((j + 1 : Nat) : Int) - 1) = (j : Int) := by omega
        rw [ej]
        clear ej
        have i1 : (0 : Int) ≤ (j : Int) := by omega
        have i2 : (j : Int) < (xs.length : Int) := by omega
        have i3 : (j : Int) < (ys.length : Int) := by omega
        rcases Nat.lt_trichotomy (nth xs j) (nth ys j) with hlt | heq | hgt
        · have e2 : decide (nth xs j < nth ys j) = true := by simp; omega
          have hT2 := hide ((cmpFrom_lt hlt).symm.trans hT.out)
          clear hT
          go_wp2_with fail
          go_quiet (fail)
          go_wp2
          go_ret
          exact ⟨ret_int (Eq.trans rfl hT2.out), by repeat (first | assumption | refine below_drewN ?_ _)⟩
        · have e1 : decide (nth xs j < nth ys j) = false := by simp; omega
          have e2 : decide (nth ys j < nth xs j) = false := by simp; omega
          have hT2 := hide ((cmpFrom_eq heq).symm.trans hT.out)
          clear hT heq
          go_wp2_with fail
          go_quiet (fail)
          go_wp2_with fail
          go_quiet (fail)
          go_wp2
          go_roundw
          case rel => exact ⟨j, by omega, by go_num, hT2, by repeat (first | assumption | refine below_drewN ?_ _)⟩
          case measure => simp [intOf]
        · have e1 : decide (nth xs j < nth ys j) = false := by simp; omega
          have e2 : decide (nth ys j < nth xs j) = true := by simp; omega
          have hT2 := hide ((cmpFrom_gt hgt).symm.trans hT.out)
          clear hT
          go_wp2_with fail
          go_quiet (fail)
          go_wp2_with fail
          go_quiet (fail)
          go_wp2
          go_ret
          exact ⟨ret_int (Eq.trans rfl hT2.out), by repeat (first | assumption | refine below_drewN ?_ _)⟩
  · have el : ((xs.length : Int) != (ys.length : Int)) = true := by rw [bne_iff_ne]; omega
    by_cases hl2 : xs.length < ys.length
    · have hres : Hid (cmpL xs ys = -1) := by unfold cmpL; rw [if_pos hl2]; exact hide rfl
      go_enter Try.func97, Try.ntmps97
      go_wp2
      go_ret
      exact ⟨ret_int hres.out.symm, Below.refl _ _⟩
    · have hres : Hid (cmpL xs ys = 1) := by unfold cmpL; rw [if_neg hl2, if_pos (by omega)]; exact hide rfl
      go_enter Try.func97, Try.ntmps97
      go_wp2
      go_ret
      exact ⟨ret_int hres.out.symm, Below.refl _ _⟩

/-- How many bits digits have. -/
def bits16 (xs : List Nat) : Nat := if xs.length = 0 then 0 else 16 * (xs.length - 1) + blen (nth xs (xs.length - 1))
theorem bits16_can {xs : List Nat} (hl : Lim DD xs) (hc : Cnl xs) : bits16 xs = blen (val DD xs) := by
  unfold bits16
  split
  · rename_i h
    rw [List.length_eq_zero_iff.1 h]
    rfl
  · rename_i h
    have hne : xs ≠ [] := by intro e; rw [e] at h; exact h rfl
    have h1 := List.dropLast_concat_getLast hne
    have h2 : xs.getLast hne ≠ 0 := by
      intro e
      apply hc
      rw [List.getLast?_eq_some_getLast hne, e]
    have h3 := blen_limbs (w := 16) (xs := xs.dropLast) (x := xs.getLast hne) (by rw [← DD_eq]; intro y hy; exact hl y ((List.dropLast_sublist xs).subset hy)) h2
    rw [h1, List.length_dropLast] at h3
    rw [DD_eq, h3, nth, List.getD_eq_getElem?_getD, ← List.getLast?_eq_getElem?, List.getLast?_eq_some_getLast hne]
    rfl
theorem bits16_limbs (X : Nat) : bits16 (limbs DD X) = blen X := by
  rw [bits16_can (limbs_lim DD_gt1 _) (limbs_can DD_gt1 _), limbs_val DD_gt1]
set_option maxHeartbeats 1000000 in
theorem rbits_any (A : Option Addr) (n c : Nat) (xs : List Nat) (w : World) (h : RdN .u32 w A n c xs) (hl : Lim DD xs) (hn : n ≤ 1000000) :
    Calls Try.prog 96 #[.slice A n c] w fun e w' => e = .returned (.int .i64 (bits16 xs : Nat)) ∧ w = w' := by
  obtain ⟨hlen, hcap, hmax, hat⟩ := h
  unfold maxLen at hmax
  subst hlen
  by_cases h0 : xs.length = 0
  · have e0 : ((xs.length : Int) == 0) = true := by simp [h0]
    have hres : Hid (bits16 xs = 0) := by unfold bits16; rw [if_pos h0]; exact hide rfl
    clear h0
    go_enter Try.func96, Try.ntmps96
    go_wp2
    go_ret
    exact ⟨ret_int (by rw [hres.out]; rfl), rfl⟩
  · obtain ⟨b, off, rfl, hb, hc⟩ := hat (by omega)
    have e0 : ((xs.length : Int) == 0) = false := beq_eq_false_iff_ne.2 (by omega)
    have hcell := hc (xs.length - 1) (by omega)
    obtain ⟨x, hx⟩ : ∃ x, x = nth xs (xs.length - 1) := ⟨_, rfl⟩
    rw [← hx] at hcell
    have hxl : x < 65536 := by rw [hx]; exact hl.getD DD_pos (xs.length - 1)
    have hb16 : blen x ≤ 16 := blen_le.2 hxl
    have hres : Hid ((bits16 xs : Int) = 16 * ((xs.length : Int) - 1) + (blen x : Int)) := by unfold bits16 Hid; rw [if_neg h0, ← hx]; omega
    have hp : 1 ≤ xs.length := by omega
    have i0 : ((xs.length : Int) - 1).toNat = xs.length - 1 := by omega
    clear hat hc h0 hx
    go_enter Try.func96, Try.ntmps96
    go_wp2
    go_loop [3, 4] (fun q y => ∃ k : Nat, k ≤ blen x ∧ q = .int .i64 (16 * ((xs.length : Int) - 1) + (k : Int)) ∧ y = .int .u32 ((x / 2 ^ k : Nat) : Int)) (fun _ y => (intOf y).toNat)
    case atStart => exact ⟨0, Nat.zero_le _, by simp, by simp⟩
    case round =>
      obtain ⟨k, hk, rfl, rfl⟩ := hrel
      have e3 : Hid (x / 2 ^ (k + 1) = x / 2 ^ k / 2) := by rw [Nat.pow_succ, Nat.div_div_eq_div_mul]; exact hide rfl
      obtain ⟨y, hy⟩ : ∃ y, y = x / 2 ^ k := ⟨_, rfl⟩
      have hyl : y ≤ 65536 := by rw [hy]; exact Nat.le_trans (Nat.div_le_self _ _) (by omega)
      have HY := hide hy
      rw [← hy]
      clear hy
      by_cases hy0 : 0 < y
      · have hk2 : k < blen x := by
          rw [lt_blen]
          have := HY.out
          rcases Nat.lt_or_ge x (2 ^ k) with h | h
          · rw [Nat.div_eq_of_lt h] at this; omega
          · exact h
        go_wp2
        go_round
        case rel => exact ⟨k + 1, hk2, by go_num, by
          have h4 := e3.out
          rw [← HY.out] at h4
          rw [h4]
          rfl⟩
        case measure => simp [intOf]; omega
      · have hk2 : Hid (k = blen x) := by
          have h5 := HY.out
          have h6 : ¬ k < blen x := by
            rw [lt_blen]
            intro h7
            have := Nat.div_pos h7 (Nat.two_pow_pos k)
            omega
          unfold Hid; omega
        obtain rfl : y = 0 := by omega
        go_wp2
        go_ret
        exact ⟨ret_int (by rw [hres.out, hk2.out]), rfl⟩
end Go.Proofs.Ytpkfjfpknbhekaa
namespace Go.Proofs.Ytpkfjfpknbhekaa
open Go.RowKit Pl

theorem or16 {x r c : Nat} (hx : x < DD) (hr : r < 16) (hc : c < 2 ^ r) : bits .or .u32 ((x : Int) * 2 ^ r % 4294967296) (c : Int) = ((x * 2 ^ r + c : Nat) : Int) := by
  have h1 : x * 2 ^ r < 4294967296 := by
    calc x * 2 ^ r ≤ 65535 * 32768 := Nat.mul_le_mul (by unfold DD at hx; omega) (Nat.pow_le_pow_right (by omega) (show r ≤ 15 by omega))
      _ < _ := by omega
  have h2 : c < 4294967296 := Nat.lt_of_lt_of_le hc (Nat.pow_le_pow_right (by omega) (show r ≤ 32 by omega))
  have h3 : ((x : Int) * 2 ^ r) = ((x * 2 ^ r : Nat) : Int) := by rw [Int.natCast_mul, Int.natCast_pow]; rfl
  rw [h3, show ((x * 2 ^ r : Nat) : Int) % 4294967296 = ((x * 2 ^ r : Nat) : Int) by omega, u32_or_nat _ _ h1 h2, nat_join r _ _ (Nat.mul_mod_left _ _) hc]
theorem and16 {y : Nat} (hy : y < 4294967296) : bits .and .u32 (y : Int) 65535 = ((y % DD : Nat) : Int) := by
  have e3 := u32_and_nat y 65535 hy (by omega)
  rw [nat_mask16] at e3
  exact e3

set_option maxRecDepth 100000 in
set_option maxHeartbeats 1000000 in
theorem rshl_any (A : Option Addr) (n c X m : Nat) (w : World) (h : RdN .u32 w A n c (limbs DD X)) (hn : n ≤ 100000) (hm : m ≤ 1000000) :
    Calls Try.prog 98 #[.slice A n c, .int .i64 (m : Int)] w fun e w' => ∃ v, e = .returned v ∧ R16 w' v (X * 2 ^ m) ∧ Below w.heap.size w w' := by
  have HR := hide h
  obtain ⟨hlen, hcap, hmax, hat⟩ := h
  unfold maxLen at hmax
  obtain ⟨i0, hi, hz0, hz1, hz2⟩ := info_parts info_u32
  have hl : Lim DD (limbs DD X) := limbs_lim DD_gt1 X
  by_cases h0 : n = 0
  · have e0 : ((n : Int) == 0) = true := by simp [h0]
    have hX : Hid (X * 2 ^ m = X) := by
      have : limbs DD X = [] := List.length_eq_zero_iff.1 (by omega)
      rw [(limbs_eq_nil DD_gt1).1 this, Nat.zero_mul]
      rfl
    clear h0
    go_enter Try.func98, Try.ntmps98
    go_wp2
    go_ret
    exact ⟨_, rfl, by rw [hX.out]; exact ⟨_, _, _, rfl, HR.out⟩, Below.refl _ _⟩
  · obtain ⟨xs, hxs⟩ : ∃ xs, xs = limbs DD X := ⟨_, rfl⟩
    rw [← hxs] at hlen hl hat
    have HX := hide hxs
    clear hxs
    subst hlen
    obtain ⟨b, off, rfl, hb, hc⟩ := hat (by omega)
    have e0 : ((xs.length : Int) == 0) = false := beq_eq_false_iff_ne.2 (by omega)
    clear hat
    go_enter Try.func98, Try.ntmps98
    go_wp2_with (at_make; refine wpList_make_full _ rfl _ _ 117 rfl w.heap.size 131 i0 _ 1 Try.underlying117 hi hz0 hz1 .i64 .i64 _ _ (m / 16) rfl rfl ?c1 ?c2 ?c3 ?c4 ?c5 ?_)
    case c1 => omega
    case c2 => omega
    case c3 => rw [hz2]; omega
    case c4 => unfold maxLen; omega
    case c5 => exact Nat.le_refl _
    intro w1 hown1 hg1
    rw [made_u32] at hown1
    have hb1 : Below w.heap.size w w1 := (Below.refl _ _).grown hg1 (Nat.le_refl _) (by simp)
    go_wp2
    go_loopw [5, 6, 7] (fun v y i wr => ∃ (k : Nat) (o : List Nat) (q : Nat), k ≤ xs.length ∧ i = .int .i64 (k : Int) ∧ y = .int .u32 (q : Int) ∧ Hid (ShlInv xs o (m / 16) (m % 16) q k) ∧
      wr.ownsRow w.heap.size 131 1 v (m / 16 + k) (U .u32 o) ∧ Below w.heap.size w wr) (fun _ _ i _ => xs.length - (intOf i).toNat)
    case atStart => exact ⟨0, _, 0, Nat.zero_le _, rfl, rfl, hide (ShlInv.start xs (m / 16) (m % 16)), hown1, hb1⟩
    case round =>
      obtain ⟨k, o, q, hk, rfl, rfl, hinv, hown, hbw⟩ := hrel
      rcases Nat.lt_or_ge k xs.length with hlt | hge
      · have hcell := RdN.cellW hc hb hbw k hlt
        go_upto_region 9 with fail
        have hx : nth xs k < DD := hl.getD DD_pos k
        have hq : q < 2 ^ (m % 16) := hinv.out.car
        rw [or16 hx (by omega) hq]
        obtain ⟨y, hy⟩ : ∃ y, y = nth xs k * 2 ^ (m % 16) + q := ⟨_, rfl⟩
        rw [← hy]
        have hyl : y < 4294967296 := by
          have h1 : nth xs k * 2 ^ (m % 16) ≤ 65535 * 32768 := Nat.mul_le_mul (by unfold DD at hx; omega) (Nat.pow_le_pow_right (by omega) (show m % 16 ≤ 15 by omega))
          have h2 : 2 ^ (m % 16) ≤ 2 ^ 15 := Nat.pow_le_pow_right (by omega) (by omega)
          omega
        have HY := hide hy
        clear hy hx hq
        go_wp2_with (at_builtin; refine wpList_append_own _ rfl _ _ 117 rfl w.heap.size 131 i0 (.int .u32 0) 1 4 Try.underlying117 hi hz0 hz1 hz2 rfl (by decide) _ _ _ rfl (hown.alloc _) ⟨wr.heap.size, 0, none⟩ 1 1 [.int .u32 (bits .and .u32 (y : Int) 65535)] rfl rfl ?c1 ?c2 ?c3 ?c4 ?c5 ?_)
        case c1 => exact new_one
        case c2 => exact one_int _ _
        case c3 => unfold maxLen; omega
        case c4 => omega
        case c5 => exact base_app hbw
        intro v' w1 hown1 hg1 _
        have hb1 := below_app hbw hown hg1
        rw [U_snoc _ _ _ _ (and16 hyl)] at hown1
        clear hown hbw hg1
        go_wp2
        go_roundw
        case rel =>
          have hs := hinv.out.step hl
          have ey : xs.getD k 0 * 2 ^ (m % 16) + q = y := HY.out.symm
          rw [ey] at hs
          exact ⟨k + 1, _, y / DD, by omega, by go_num, by simp [DD], hide hs, hown1, hb1⟩
        case measure => simp [intOf]; omega
      · obtain rfl : k = xs.length := by omega
        have hlast := hide (hinv.out.last (Nat.mod_lt m (by omega)))
        have hq : q < 2 ^ (m % 16) := hinv.out.car
        have hq2 : q < 65536 := Nat.lt_of_lt_of_le hq (show 2 ^ (m % 16) ≤ 2 ^ 16 from Nat.pow_le_pow_right (by omega) (by omega))
        clear hq
        go_wp2_with (at_builtin; refine wpList_append_own _ rfl _ _ 117 rfl w.heap.size 131 i0 (.int .u32 0) 1 4 Try.underlying117 hi hz0 hz1 hz2 rfl (by decide) _ _ _ rfl (hown.alloc _) ⟨wr.heap.size, 0, none⟩ 1 1 [.int .u32 (q : Int)] rfl rfl ?c1 ?c2 ?c3 ?c4 ?c5 ?_)
        case c1 => exact new_one
        case c2 => exact one_int _ _
        case c3 => unfold maxLen; omega
        case c4 => omega
        case c5 => exact base_app hbw
        intro v' w1 hown1 hg1 _
        have hb1 := below_app hbw hown hg1
        rw [U_snoc _ _ _ q rfl] at hown1
        clear hown hbw hg1
        obtain ⟨A', c', rfl⟩ := own_slice hown1
        have hrd := RdN.of_own hown1
        go_wp2_with (go_at_call 103; refine (rtrim_any _ _ _ _ _ hrd).mono ?_; rintro e w' ⟨A2, c2, rfl, hr2, rfl⟩)
        go_ret
        refine ⟨_, rfl, ⟨_, _, _, rfl, ?_⟩, hb1⟩
        rw [trimL_limbs DD_gt1 hlast.out.1, hlast.out.2, HX.out, limbs_val DD_gt1, show 16 * (m / 16) + m % 16 = m by omega] at hr2 ⊢
        exact hr2
end Go.Proofs.Ytpkfjfpknbhekaa
