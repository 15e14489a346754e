/- The plain laws of tubes: one in another is a matter of the cells that overlap. The plain laws of tubes: hulls over spans. The plain laws of tubes: what they are at times; cuts, joins, halves. -/
import Derived.Test.YtbpfnooloemieaaDoorTbPx
import Derived.Test.YtbpfnooloemieaaDoorBxPx
namespace Go.Proofs.YtbpfnooloemieaaDoor
open Go.RowKit Pl

def LimT (t : Tb) : Prop := (∀ d ∈ t.at_, Lim BB d.m) ∧ ∀ x ∈ t.v, Lim BB x.lo.m ∧ Lim BB x.hi.m
/-- The i-th time as a number. -/
def ZT (t : Tb) (i : Nat) : Int := ZD (atT t.at_ i)
structure OkT (t : Tb) : Prop where
  may : mayT t = true
  n : 0 < t.v.length
  few : t.v.length ≤ 256
  len : t.at_.length = t.v.length + 1
  gd : ∀ i, i ≤ t.v.length → GD (atT t.at_ i)
  inc : ∀ i, i < t.v.length → ZT t i < ZT t (i + 1)
  cells : OkB t.v
theorem allT_all {l : List Dy} (h : allT l 0 = true) : ∀ i, i < l.length → stepT l i = true := by
  intro i hi
  unfold allT at h
  rw [List.all_eq_true] at h
  exact h i (by rw [List.mem_range']; exact ⟨i, by omega, by omega⟩)
theorem GD.lt {a b : Dy} (A : GD a) (B : GD b) : (cmpD a b < 0) ↔ ZD a < ZD b := by
  have := A.ge B
  omega
theorem GD.eq0 {a b : Dy} (A : GD a) (B : GD b) : cmpD a b = 0 ↔ ZD a = ZD b := by
  have h1 := A.ge B
  have h2 := A.le B
  omega
theorem atT_mem {l : List Dy} {i : Nat} (h : i < l.length) : atT l i ∈ l := by
  unfold atT
  rw [List.getElem?_eq_getElem h]
  exact List.getElem_mem h
theorem OkT.of {t : Tb} (h : mayT t = true) (hl : LimT t) : OkT t := by
  have M := MayT.of h
  have st := allT_all M.inc
  have gd : ∀ i, i ≤ t.v.length → GD (atT t.at_ i) := fun i hi => by
    have := st i (by have := M.len; omega)
    unfold stepT at this
    rw [Bool.and_eq_true] at this
    exact ⟨this.1, hl.1 _ (atT_mem (by have := M.len; omega))⟩
  refine ⟨h, M.pos, M.few, M.len, gd, fun i hi => ?_, OkB.mk' M.may hl.2⟩
  have := st (i + 1) (by have := M.len; omega)
  unfold stepT at this
  rw [Bool.and_eq_true, Bool.or_eq_true] at this
  rcases this.2 with h2 | h2
  · have := of_decide_eq_true h2
    omega
  · have := of_decide_eq_true h2
    rw [Nat.add_sub_cancel] at this
    exact ((gd i (by omega)).lt (gd (i + 1) (by omega))).1 this
theorem OkT.lt {t : Tb} (T : OkT t) {i : Nat} : ∀ {j : Nat}, i < j → j ≤ t.v.length → ZT t i < ZT t j
  | j + 1, h, hj => by
    have h1 := T.inc j (by omega)
    by_cases e : i = j
    · rw [e]; exact h1
    · exact Int.lt_trans (T.lt (by omega) (by omega)) h1
theorem OkT.le {t : Tb} (T : OkT t) {i j : Nat} (h : i ≤ j) (hj : j ≤ t.v.length) : ZT t i ≤ ZT t j := by
  by_cases e : i = j
  · rw [e]; exact Int.le_refl _
  · exact Int.le_of_lt (T.lt (by omega) hj)
/-- The cell that a time lies in, from the left. -/
theorem OkT.cell {t : Tb} (T : OkT t) {z : Int} (h0 : ZT t 0 ≤ z) : ∀ {n : Nat}, n ≤ t.v.length → z < ZT t n → ∃ k, k < n ∧ ZT t k ≤ z ∧ z < ZT t (k + 1)
  | 0, _, h => by omega
  | n + 1, hn, h => by
    by_cases h2 : ZT t n ≤ z
    · exact ⟨n, by omega, h2, h⟩
    · obtain ⟨k, h3, h4⟩ := T.cell h0 (n := n) (by omega) (by omega)
      exact ⟨k, by omega, h4⟩
/-- From the right. -/
theorem OkT.cellR {t : Tb} (T : OkT t) {z : Int} (h0 : ZT t 0 < z) : ∀ {n : Nat}, n ≤ t.v.length → z ≤ ZT t n → ∃ k, k < n ∧ ZT t k < z ∧ z ≤ ZT t (k + 1)
  | 0, _, h => by omega
  | n + 1, hn, h => by
    by_cases h2 : ZT t n < z
    · exact ⟨n, by omega, h2, h⟩
    · obtain ⟨k, h3, h4⟩ := T.cellR h0 (n := n) (by omega) (by omega)
      exact ⟨k, by omega, h4⟩
/-- All that overlap. -/
def Over2 (f : Iv → Iv → Bool) (a b : Tb) (i k : Nat) : Prop := ∀ (i' k' : Nat) x y, i ≤ i' → k ≤ k' → a.v[i']? = some x → b.v[k']? = some y → ZT a i' < ZT b (k' + 1) → ZT b k' < ZT a (i' + 1) → f x y = true
theorem walk_iff {f : Iv → Iv → Bool} {a b : Tb} (A : OkT a) (B : OkT b) : ∀ (n i k : Nat), a.v.length + b.v.length + 1 ≤ n + i + k → (i < a.v.length → k < b.v.length → ZT a i < ZT b (k + 1) ∧ ZT b k < ZT a (i + 1)) → (walkT f a b n i k = true ↔ Over2 f a b i k)
  | 0, i, k, hn, _ => by
    refine ⟨fun _ i' k' x y h1 h2 hx hy => ?_, fun _ => rfl⟩
    have := get_lt hx
    have := get_lt hy
    omega
  | n + 1, i, k, hn, hov => by
    by_cases hi : i < a.v.length
    · by_cases hk : k < b.v.length
      · obtain ⟨x, hx⟩ := get_ex (l := a.v) hi (Nat.le_refl _)
        obtain ⟨y, hy⟩ := get_ex (l := b.v) hk (Nat.le_refl _)
        obtain ⟨o1, o2⟩ := hov hi hk
        have ga := A.gd (i + 1) hi
        have gb := B.gd (k + 1) hk
        have e : walkT f a b (n + 1) i k = (f x y && (bif decide (cmpD (atT a.at_ (i + 1)) (atT b.at_ (k + 1)) < 0) then walkT f a b n (i + 1) k else bif cmpD (atT a.at_ (i + 1)) (atT b.at_ (k + 1)) == 0 then walkT f a b n (i + 1) (k + 1) else walkT f a b n i (k + 1))) := by
          rw [show walkT f a b (n + 1) i k = (match a.v[i]?, b.v[k]? with
            | some x, some y => f x y && (bif decide (cmpD (atT a.at_ (i + 1)) (atT b.at_ (k + 1)) < 0) then walkT f a b n (i + 1) k else bif cmpD (atT a.at_ (i + 1)) (atT b.at_ (k + 1)) == 0 then walkT f a b n (i + 1) (k + 1) else walkT f a b n i (k + 1))
            | _, _ => true) from rfl, hx, hy]
        have key : ∀ i2 k2, i ≤ i2 → k ≤ k2 → (∀ (i' k' : Nat), i ≤ i' → k ≤ k' → i' < a.v.length → k' < b.v.length → ZT a i' < ZT b (k' + 1) → ZT b k' < ZT a (i' + 1) → (i' = i ∧ k' = k) ∨ (i2 ≤ i' ∧ k2 ≤ k')) → ((f x y = true ∧ Over2 f a b i2 k2) ↔ Over2 f a b i k) := by
          intro i2 k2 hi2 hk2 hc
          constructor
          · rintro ⟨h1, h2⟩ i' k' u v g1 g2 hu hv p q
            rcases hc i' k' g1 g2 (get_lt hu) (get_lt hv) p q with ⟨rfl, rfl⟩ | ⟨g3, g4⟩
            · rw [hx] at hu
              rw [hy] at hv
              cases hu
              cases hv
              exact h1
            · exact h2 i' k' u v g3 g4 hu hv p q
          · intro h
            exact ⟨h i k x y (Nat.le_refl _) (Nat.le_refl _) hx hy o1 o2, fun i' k' u v g1 g2 => h i' k' u v (by omega) (by omega)⟩
        rw [e, Bool.and_eq_true]
        have ha : ZD (atT a.at_ (i + 1)) = ZT a (i + 1) := rfl
        have hb : ZD (atT b.at_ (k + 1)) = ZT b (k + 1) := rfl
        rcases Int.lt_trichotomy (ZT a (i + 1)) (ZT b (k + 1)) with h | h | h
        · rw [decide_eq_true ((ga.lt gb).2 (by rw [ha, hb]; exact h)), cond_true, walk_iff A B n (i + 1) k (by omega) (fun g1 g2 => ⟨h, by have := A.inc (i + 1) g1; omega⟩)]
          refine key (i + 1) k (by omega) (by omega) fun i' k' g1 g2 g3 g4 p q => ?_
          by_cases e1 : i' = i
          · by_cases e2 : k' = k
            · exact .inl ⟨e1, e2⟩
            · have := B.le (i := k + 1) (j := k') (by omega) (by omega)
              rw [e1] at q
              omega
          · exact .inr ⟨by omega, g2⟩
        · rw [decide_eq_false (fun g => by have := (ga.lt gb).1 g; rw [ha, hb] at this; omega), cond_false, show (cmpD (atT a.at_ (i + 1)) (atT b.at_ (k + 1)) == 0) = true by rw [(ga.eq0 gb).2 (by rw [ha, hb]; exact h)]; rfl, cond_true, walk_iff A B n (i + 1) (k + 1) (by omega) (fun g1 g2 => ⟨by have := B.inc (k + 1) g2; omega, by have := A.inc (i + 1) g1; omega⟩)]
          refine key (i + 1) (k + 1) (by omega) (by omega) fun i' k' g1 g2 g3 g4 p q => ?_
          by_cases e1 : i' = i
          · by_cases e2 : k' = k
            · exact .inl ⟨e1, e2⟩
            · have := B.le (i := k + 1) (j := k') (by omega) (by omega)
              rw [e1] at q
              omega
          · by_cases e2 : k' = k
            · have := A.le (i := i + 1) (j := i') (by omega) (by omega)
              rw [e2] at p
              omega
            · exact .inr ⟨by omega, by omega⟩
        · rw [decide_eq_false (fun g => by have := (ga.lt gb).1 g; rw [ha, hb] at this; omega), cond_false, show (cmpD (atT a.at_ (i + 1)) (atT b.at_ (k + 1)) == 0) = false by
            cases hh : cmpD (atT a.at_ (i + 1)) (atT b.at_ (k + 1)) == 0 with
            | false => rfl
            | true => have := (ga.eq0 gb).1 (eq_of_beq hh); rw [ha, hb] at this; omega, cond_false, walk_iff A B n i (k + 1) (by omega) (fun g1 g2 => ⟨by have := B.inc (k + 1) g2; omega, h⟩)]
          refine key i (k + 1) (by omega) (by omega) fun i' k' g1 g2 g3 g4 p q => ?_
          by_cases e2 : k' = k
          · by_cases e1 : i' = i
            · exact .inl ⟨e1, e2⟩
            · have := A.le (i := i + 1) (j := i') (by omega) (by omega)
              rw [e2] at p
              omega
          · exact .inr ⟨g1, by omega⟩
      · refine ⟨fun _ i' k' x y h1 h2 hx hy => by have := get_lt hy; omega, fun _ => ?_⟩
        unfold walkT
        rw [List.getElem?_eq_none (l := b.v) (by omega)]
        cases a.v[i]? <;> rfl
    · refine ⟨fun _ i' k' x y h1 h2 hx hy => by have := get_lt hx; omega, fun _ => ?_⟩
      unfold walkT
      rw [List.getElem?_eq_none (by omega)]
theorem firstT_Z (t : Tb) : ZD (firstT t) = ZT t 0 := rfl
theorem lastT_Z {t : Tb} (T : OkT t) : ZD (lastT t) = ZT t t.v.length := by
  unfold lastT ZT
  rw [T.len, Nat.add_sub_cancel]
theorem OkT.gf {t : Tb} (T : OkT t) : GD (firstT t) := T.gd 0 (Nat.zero_le _)
theorem OkT.gl {t : Tb} (T : OkT t) : GD (lastT t) := by
  unfold lastT
  rw [T.len, Nat.add_sub_cancel]
  exact T.gd _ (Nat.le_refl _)
/-- One in another. -/
structure In2 (f : Iv → Iv → Bool) (a b : Tb) : Prop where
  A : OkT a
  B : OkT b
  z0 : ZT a 0 = ZT b 0
  z1 : ZT a a.v.length = ZT b b.v.length
  all : ∀ (i k : Nat) x y, a.v[i]? = some x → b.v[k]? = some y → ZT a i < ZT b (k + 1) → ZT b k < ZT a (i + 1) → f x y = true
theorem ne0 {a b : Dy} (A : GD a) (B : GD b) : (cmpD a b != 0) = false ↔ ZD a = ZD b := by
  rw [← A.eq0 B]
  simp
theorem beside_iff {f : Iv → Iv → Bool} {a b : Tb} (la : LimT a) (lb : LimT b) : besideT f a b = true ↔ In2 f a b := by
  unfold besideT
  constructor
  · intro h
    simp only [Bool.and_eq_true, Bool.not_eq_true'] at h
    obtain ⟨h1, h2, h3, h4, h5⟩ := h
    have A := OkT.of h1 la
    have B := OkT.of h2 lb
    have e0 := (ne0 A.gf B.gf).1 h3
    have e1 := (ne0 A.gl B.gl).1 h4
    rw [firstT_Z, firstT_Z] at e0
    rw [lastT_Z A, lastT_Z B] at e1
    refine ⟨A, B, e0, e1, fun i k x y hx hy p q => (walk_iff A B _ 0 0 (by omega) fun g1 g2 => ⟨by rw [e0]; exact B.inc 0 g2, by rw [← e0]; exact A.inc 0 g1⟩).1 h5 i k x y (Nat.zero_le _) (Nat.zero_le _) hx hy p q⟩
  · rintro ⟨A, B, e0, e1, hall⟩
    rw [A.may, B.may, (ne0 A.gf B.gf).2 (by rw [firstT_Z, firstT_Z]; exact e0), (ne0 A.gl B.gl).2 (by rw [lastT_Z A, lastT_Z B]; exact e1)]
    have := (walk_iff (f := f) A B (a.v.length + b.v.length + 1) 0 0 (by omega) fun g1 g2 => ⟨by rw [e0]; exact B.inc 0 g2, by rw [← e0]; exact A.inc 0 g1⟩).2 fun i k x y _ _ hx hy p q => hall i k x y hx hy p q
    rw [this]
    rfl
theorem wi_trans {x y z : Iv} (gx : GI x) (gy : GI y) (gz : GI z) (h : withinI x y = true) (k : withinI y z = true) : withinI x z = true := by
  obtain ⟨a1, a2, a3, a4⟩ := (gx.within gy).1 h
  obtain ⟨b1, b2, b3, b4⟩ := (gy.within gz).1 k
  exact (gx.within gz).2 ⟨a1, b2, by omega, by omega⟩
theorem ii_trans {x y z : Iv} (gx : GI x) (gy : GI y) (gz : GI z) (h : insideI x y = true) (k : withinI y z = true) : insideI x z = true := by
  obtain ⟨a1, a2, a3, a4⟩ := (gx.inside gy).1 h
  obtain ⟨b1, b2, b3, b4⟩ := (gy.within gz).1 k
  exact (gx.inside gz).2 ⟨a1, b2, by omega, by omega⟩
/-- To be in one that is in a third. -/
theorem In2.trans {f g h : Iv → Iv → Bool} {a b c : Tb} (hf : ∀ {x y z}, GI x → GI y → GI z → f x y = true → g y z = true → h x z = true) (P : In2 f a b) (Q : In2 g b c) : In2 h a c := by
  obtain ⟨A, B, e0, e1, h1⟩ := P
  obtain ⟨_, C, e2, e3, h2⟩ := Q
  refine ⟨A, C, by omega, by omega, fun i j x z hx hz p q => ?_⟩
  have li := get_lt hx
  have lj := get_lt hz
  have ia := A.inc i li
  have ic := C.inc j lj
  have a0 := A.le (i := 0) (j := i) (Nat.zero_le _) (by omega)
  have c0 := C.le (i := 0) (j := j) (Nat.zero_le _) (by omega)
  have an := A.le (i := i + 1) (j := a.v.length) li (Nat.le_refl _)
  have cn := C.le (i := j + 1) (j := c.v.length) lj (Nat.le_refl _)
  have key : ∀ t, ZT a i ≤ t → ZT c j ≤ t → t < ZT a (i + 1) → t < ZT c (j + 1) → h x z = true := by
    intro t t1 t2 t3 t4
    obtain ⟨k, k1, k2, k3⟩ := B.cell (z := t) (by omega) (n := b.v.length) (Nat.le_refl _) (by omega)
    obtain ⟨y, hy⟩ := get_ex (l := b.v) k1 (Nat.le_refl _)
    exact hf (A.cells i x hx).2.1 (B.cells k y hy).2.1 (C.cells j z hz).2.1 (h1 i k x y hx hy (by omega) (by omega)) (h2 k j y z hy hz (by omega) (by omega))
  by_cases hm : ZT a i ≤ ZT c j
  · exact key (ZT c j) hm (Int.le_refl _) q ic
  · exact key (ZT a i) (Int.le_refl _) (by omega) ia p
theorem In2.self {a : Tb} (A : OkT a) : In2 withinI a a := by
  refine ⟨A, A, rfl, rfl, fun i k x y hx hy p q => ?_⟩
  have li := get_lt hx
  have lk := get_lt hy
  have e : i = k := by
    by_cases h1 : i < k
    · have := A.le (i := i + 1) (j := k) h1 (by omega); omega
    · by_cases h2 : k < i
      · have := A.le (i := k + 1) (j := i) h2 (by omega); omega
      · omega
  subst e
  rw [hx] at hy
  cases hy
  obtain ⟨_, g, hle⟩ := A.cells i x hx
  exact (g.within g).2 ⟨hle, hle, Int.le_refl _, Int.le_refl _⟩
theorem not_inside {a : Tb} (la : LimT a) : besideT insideI a a = false := by
  cases h : besideT insideI a a with
  | false => rfl
  | true =>
    obtain ⟨A, _, _, _, hall⟩ := (beside_iff la la).1 h
    obtain ⟨x, hx⟩ := get_ex (l := a.v) A.n (Nat.le_refl _)
    have := hall 0 0 x x hx hx (A.inc 0 A.n) (A.inc 0 A.n)
    obtain ⟨_, g, hle⟩ := A.cells 0 x hx
    have := (g.inside g).1 this
    omega
end Go.Proofs.YtbpfnooloemieaaDoor
namespace Go.Proofs.YtbpfnooloemieaaDoor
open Go.RowKit Pl

structure OkI (x : Iv) : Prop where
  may : mayI x = true
  g : GI x
  le : ZD x.lo ≤ ZD x.hi
theorem OkB.ok {a : List Iv} (h : OkB a) {i : Nat} {x : Iv} (hx : a[i]? = some x) : OkI x := let q := h i x hx; ⟨q.1, q.2.1, q.2.2⟩
def Sub (x y : Iv) : Prop := ZD y.lo ≤ ZD x.lo ∧ ZD x.hi ≤ ZD y.hi
theorem OkI.within {x y : Iv} (X : OkI x) (Y : OkI y) (h : Sub x y) : withinI x y = true := (X.g.within Y.g).2 ⟨X.le, Y.le, h.1, h.2⟩
theorem hull_ok {a b : Iv} (A : OkI a) (B : OkI b) : ∃ c, hullI a b = (c, 0) ∧ OkI c ∧ Sub a c ∧ Sub b c ∧ ∀ L H : Int, L ≤ ZD a.lo → ZD a.hi ≤ H → L ≤ ZD b.lo → ZD b.hi ≤ H → L ≤ ZD c.lo ∧ ZD c.hi ≤ H := by
  obtain ⟨k1, k2, k3, k4⟩ := A.g.lo.least B.g.lo
  obtain ⟨k5, k6, k7, k8⟩ := A.g.hi.greatest B.g.hi
  have g : GI ⟨leastD a.lo b.lo, greatestD a.hi b.hi⟩ := ⟨k1, k5⟩
  have := A.le
  have hle : ZD (leastD a.lo b.lo) ≤ ZD (greatestD a.hi b.hi) := by omega
  refine ⟨_, by unfold hullI; rw [A.may, B.may]; rfl, ⟨g.may.2 hle, g, hle⟩, ⟨k3, k7⟩, ⟨k4, k8⟩, fun L H h1 h2 h3 h4 => ⟨?_, ?_⟩⟩
  · show L ≤ ZD (leastD a.lo b.lo)
    omega
  · show ZD (greatestD a.hi b.hi) ≤ H
    omega
def meetsT (l : List Dy) (x y : Dy) (i : Nat) : Prop := (decide (cmpD (atT l (i + 1)) x < 0) || decide ((0 : Int) < cmpD (atT l i) y)) = false
structure Hl (l : List Dy) (x y : Dy) (i : Nat) (s : Bool) (av : Iv) (vs : List Iv) (r : Iv) : Prop where
  ok : OkI r
  all : s = true → Sub av r
  each : ∀ (j : Nat) v, vs[j]? = some v → meetsT l x y (i + j) → Sub v r
  low : ∀ L H : Int, (s = true → L ≤ ZD av.lo ∧ ZD av.hi ≤ H) → (∀ (j : Nat) v, vs[j]? = some v → meetsT l x y (i + j) → L ≤ ZD v.lo ∧ ZD v.hi ≤ H) → L ≤ ZD r.lo ∧ ZD r.hi ≤ H
theorem over_hull' {l : List Dy} {x y : Dy} : ∀ (vs : List Iv) (i : Nat) (s : Bool) (all : Iv), (∀ (j : Nat) v, vs[j]? = some v → OkI v) → (s = true → OkI all) → (s = true ∨ ∃ (j : Nat) (v : Iv), vs[j]? = some v ∧ meetsT l x y (i + j)) → Hl l x y i s all vs (overL l x y i s all vs)
  | [], i, s, all, _, ha, hs => by
    rcases hs with hs | ⟨j, v, hv, _⟩
    · exact ⟨ha hs, fun _ => ⟨Int.le_refl _, Int.le_refl _⟩, fun j v hv => by simp at hv, fun L H h1 _ => h1 hs⟩
    · simp at hv
  | v :: vs, i, s, all, hok, ha, hs => by
    have hv := hok 0 v rfl
    have hok' : ∀ (j : Nat) u, vs[j]? = some u → OkI u := fun j u hu => hok (j + 1) u (by simpa using hu)
    have step : ∀ (c : Bool), (decide (cmpD (atT l (i + 1)) x < 0) || decide ((0 : Int) < cmpD (atT l i) y)) = c → overL l x y i s all (v :: vs) = bif c then overL l x y (i + 1) s all vs else bif s then overL l x y (i + 1) true (hullI all v).1 vs else overL l x y (i + 1) true v vs := by
      intro c hc
      rw [← hc]
      rfl
    have idx : ∀ j, i + (j + 1) = i + 1 + j := fun j => by omega
    cases hc : (decide (cmpD (atT l (i + 1)) x < 0) || decide ((0 : Int) < cmpD (atT l i) y)) with
    | true =>
      rw [step true hc, cond_true]
      have hno : ¬ meetsT l x y i := fun h => by unfold meetsT at h; rw [hc] at h; cases h
      have R := over_hull' (l := l) (x := x) (y := y) vs (i + 1) s all hok' ha (by
        rcases hs with hs | ⟨j, u, hu, hm⟩
        · exact .inl hs
        · cases j with
          | zero => exact absurd hm hno
          | succ j => exact .inr ⟨j, u, by simpa using hu, by rw [← idx]; exact hm⟩)
      refine ⟨R.ok, R.all, fun j u hu hm => ?_, fun L H h1 h2 => R.low L H h1 fun j u hu hm => h2 (j + 1) u (by simpa using hu) (by rw [idx]; exact hm)⟩
      cases j with
      | zero => exact absurd hm hno
      | succ j => exact R.each j u (by simpa using hu) (by rw [← idx]; exact hm)
    | false =>
      rw [step false hc, cond_false]
      cases s with
      | true =>
        rw [cond_true]
        obtain ⟨c, e, hcok, s1, s2, hlow⟩ := hull_ok (ha rfl) hv
        rw [e]
        have R := over_hull' (l := l) (x := x) (y := y) vs (i + 1) true c hok' (fun _ => hcok) (.inl rfl)
        have s3 := R.all rfl
        refine ⟨R.ok, fun _ => ⟨Int.le_trans s3.1 s1.1, Int.le_trans s1.2 s3.2⟩, fun j u hu hm => ?_, fun L H h1 h2 => ?_⟩
        · cases j with
          | zero =>
            simp only [List.getElem?_cons_zero, Option.some.injEq] at hu
            subst hu
            exact ⟨Int.le_trans s3.1 s2.1, Int.le_trans s2.2 s3.2⟩
          | succ j => exact R.each j u (by simpa using hu) (by rw [← idx]; exact hm)
        · obtain ⟨a1, a2⟩ := h1 rfl
          obtain ⟨b1, b2⟩ := h2 0 v rfl hc
          exact R.low L H (fun _ => hlow L H a1 a2 b1 b2) fun j u hu hm => h2 (j + 1) u (by simpa using hu) (by rw [idx]; exact hm)
      | false =>
        rw [cond_false]
        have R := over_hull' (l := l) (x := x) (y := y) vs (i + 1) true v hok' (fun _ => hv) (.inl rfl)
        have s3 := R.all rfl
        refine ⟨R.ok, fun h => (by cases h), fun j u hu hm => ?_, fun L H _ h2 => ?_⟩
        · cases j with
          | zero =>
            simp only [List.getElem?_cons_zero, Option.some.injEq] at hu
            subst hu
            exact s3
          | succ j => exact R.each j u (by simpa using hu) (by rw [← idx]; exact hm)
        · exact R.low L H (fun _ => h2 0 v rfl hc) fun j u hu hm => h2 (j + 1) u (by simpa using hu) (by rw [idx]; exact hm)
theorem meets_iff {t : Tb} {x y : Dy} (T : OkT t) (gx : GD x) (gy : GD y) {i : Nat} (hi : i < t.v.length) : meetsT t.at_ x y i ↔ ZD x ≤ ZT t (i + 1) ∧ ZT t i ≤ ZD y := by
  unfold meetsT
  have h1 := (T.gd (i + 1) hi).lt gx
  have h2 := (T.gd i (by omega)).gt gy
  have e1 : ZD (atT t.at_ (i + 1)) = ZT t (i + 1) := rfl
  have e2 : ZD (atT t.at_ i) = ZT t i := rfl
  rw [Bool.or_eq_false_iff]
  constructor
  · rintro ⟨a, b⟩
    have a := of_decide_eq_false a
    have b := of_decide_eq_false b
    omega
  · rintro ⟨a, b⟩
    exact ⟨decide_eq_false (by omega), decide_eq_false (by omega)⟩
/-- Over a span in the tube there is a hull. -/
structure Ovr (t : Tb) (x y : Dy) (c : Iv) : Prop where
  eq : overT t x y = (c, 0)
  ok : OkI c
  each : ∀ (i : Nat) v, t.v[i]? = some v → ZD x ≤ ZT t (i + 1) → ZT t i ≤ ZD y → Sub v c
  low : ∀ L H : Int, (∀ (i : Nat) v, t.v[i]? = some v → ZD x ≤ ZT t (i + 1) → ZT t i ≤ ZD y → L ≤ ZD v.lo ∧ ZD v.hi ≤ H) → L ≤ ZD c.lo ∧ ZD c.hi ≤ H
theorem holds_iff {t : Tb} {x : Dy} (T : OkT t) (gx : GD x) : holdsT t x = true ↔ ZT t 0 ≤ ZD x ∧ ZD x ≤ ZT t t.v.length := by
  unfold holdsT
  rw [Bool.and_eq_true]
  have h1 := T.gf.le gx
  have h2 := gx.le T.gl
  rw [firstT_Z] at h1
  rw [lastT_Z T] at h2
  constructor
  · rintro ⟨a, b⟩
    exact ⟨h1.1 (of_decide_eq_true a), h2.1 (of_decide_eq_true b)⟩
  · rintro ⟨a, b⟩
    exact ⟨decide_eq_true (h1.2 a), decide_eq_true (h2.2 b)⟩
/-- A cell that a time lies in. -/
theorem OkT.some {t : Tb} (T : OkT t) {z : Int} (h0 : ZT t 0 ≤ z) (h1 : z ≤ ZT t t.v.length) : ∃ k, k < t.v.length ∧ ZT t k ≤ z ∧ z ≤ ZT t (k + 1) := by
  by_cases h : z < ZT t t.v.length
  · obtain ⟨k, a, b, c⟩ := T.cell h0 (Nat.le_refl _) h
    exact ⟨k, a, b, by omega⟩
  · have := T.lt (i := 0) T.n (Nat.le_refl _)
    obtain ⟨k, a, b, c⟩ := T.cellR (z := z) (by omega) (Nat.le_refl _) h1
    exact ⟨k, a, by omega, c⟩
theorem over_is {t : Tb} {x y : Dy} (T : OkT t) (gx : GD x) (gy : GD y) (h1 : ZT t 0 ≤ ZD x) (h2 : ZD x ≤ ZD y) (h3 : ZD y ≤ ZT t t.v.length) : ∃ c, Ovr t x y c := by
  have hov : overT t x y = (overL t.at_ x y 0 false Iv.zero t.v, 0) := by
    unfold overT
    rw [T.may, gx.may, gy.may, decide_eq_false (fun h => by have := (gx.gt gy).1 h; omega), (holds_iff T gx).2 ⟨h1, by omega⟩, (holds_iff T gy).2 ⟨by omega, h3⟩]
    rfl
  obtain ⟨k, k1, k2, k3⟩ := T.some h1 (by omega)
  obtain ⟨v, hv⟩ := get_ex (l := t.v) k1 (Nat.le_refl _)
  have R := over_hull' (l := t.at_) (x := x) (y := y) t.v 0 false Iv.zero (fun j u hu => T.cells.ok hu) (fun h => by cases h) (.inr ⟨k, v, hv, by rw [Nat.zero_add]; exact (meets_iff T gx gy k1).2 ⟨k3, by omega⟩⟩)
  refine ⟨_, hov, R.ok, fun i u hu p q => R.each i u hu (by rw [Nat.zero_add]; exact (meets_iff T gx gy (get_lt hu)).2 ⟨p, q⟩), fun L H h => R.low L H (fun h => by cases h) fun j u hu hm => ?_⟩
  rw [Nat.zero_add] at hm
  obtain ⟨p, q⟩ := (meets_iff T gx gy (get_lt hu)).1 hm
  exact h j u hu p q
/-- Over all of it. -/
theorem over_all {a : Tb} (A : OkT a) : ∃ c, Ovr a (atT a.at_ 0) (atT a.at_ a.v.length) c := over_is A (A.gd 0 (Nat.zero_le _)) (A.gd _ (Nat.le_refl _)) (Int.le_refl _) (A.le (i := 0) (Nat.zero_le _) (Nat.le_refl _)) (Int.le_refl _)
/-- The tube of one cell that holds it. -/
theorem one_cell {x y : Dy} {c : Iv} (gx : GD x) (gy : GD y) (h : ZD x < ZD y) (C : OkI c) : mayT ⟨[x, y], [c]⟩ = true := by
  have s0 : stepT [x, y] 0 = true := by
    unfold stepT
    rw [show atT [x, y] 0 = x from rfl, gx.may]
    rfl
  have s1 : stepT [x, y] 1 = true := by
    unfold stepT
    rw [show atT [x, y] 1 = y from rfl, show atT [x, y] (1 - 1) = x from rfl, gy.may, decide_eq_true ((gx.lt gy).2 h)]
    simp
  have e : allT [x, y] 0 = (stepT [x, y] 0 && (stepT [x, y] 1 && true)) := rfl
  unfold mayT
  show (!(decide ((1 : Int) < 1)) && (!(decide ((256 : Int) < 1)) && (((2 : Int) == 2) && (allT [x, y] 0 && mayB [c])))) = true
  rw [e, s0, s1, show mayB [c] = true by unfold mayB; rw [List.all_cons, C.may]; rfl]
  rfl
theorem lim_one {x y : Dy} {c : Iv} (gx : GD x) (gy : GD y) (C : OkI c) : LimT ⟨[x, y], [c]⟩ := by
  refine ⟨fun d hd => ?_, fun v hv => ?_⟩
  · have hd : d ∈ [x, y] := hd
    simp only [List.mem_cons, List.not_mem_nil, or_false] at hd
    rcases hd with rfl | rfl
    · exact gx.lim
    · exact gy.lim
  · obtain rfl := List.mem_singleton.1 hv
    exact ⟨C.g.lo.lim, C.g.hi.lim⟩
/-- What TubeOrder asks of one tube. -/
structure Ord (a : Tb) (x z : Int) (h : Tb) : Prop where
  e0 : x = 0
  f0 : z = 0
  w1 : besideT withinI a a = true
  w2 : besideT withinI a h = true
  no : besideT insideI a a = false
theorem Ord.mk' {a : Tb} {p q : Dy} {l g : Dy} {x z : Int} {hp : List Dy} {hq : List Iv} (ma : mayT a = true) (la : LimT a) (h1 : a.at_[0]? = some p) (h2 : a.at_[a.v.length]? = some q) (ho : Hid ((⟨l, g⟩, x) = overT a p q)) (ht : Hid ((⟨hp, hq⟩, z) = makeT p q ⟨l, g⟩)) : Ord a x z ⟨hp, hq⟩ := by
  have A := OkT.of ma la
  obtain ⟨c, C⟩ := over_all A
  have ep : atT a.at_ 0 = p := atT_is h1
  have eq : atT a.at_ a.v.length = q := atT_is h2
  rw [ep, eq] at C
  have h3 := ho.out.trans C.eq
  injection h3 with h4 h5
  have gp : GD p := ep ▸ A.gd 0 (Nat.zero_le _)
  have gq : GD q := eq ▸ A.gd _ (Nat.le_refl _)
  have zp : ZD p = ZT a 0 := by rw [← ep]; rfl
  have zq : ZD q = ZT a a.v.length := by rw [← eq]; rfl
  have hlt : ZD p < ZD q := by rw [zp, zq]; exact A.lt A.n (Nat.le_refl _)
  have mh := one_cell gp gq hlt C.ok
  have h6 := ht.out
  unfold makeT at h6
  rw [h4, mh, cond_true] at h6
  injection h6 with h7 h8
  have H := OkT.of mh (lim_one gp gq C.ok)
  refine ⟨h5, h8, (beside_iff la la).2 (In2.self A), ?_, not_inside la⟩
  rw [h7]
  refine (beside_iff la (lim_one gp gq C.ok)).2 ⟨A, H, zp.symm, zq.symm, fun i k v w hv hw p2 q2 => ?_⟩
  have hk := get_lt hw
  have hk0 : k = 0 := by have : k < 1 := hk; omega
  subst hk0
  have hw' : ([c] : List Iv)[0]? = some w := hw
  cases hw'
  have li := get_lt hv
  exact (A.cells.ok hv).within C.ok (C.each i v hv (by rw [zp]; exact A.le (Nat.zero_le _) li) (by rw [zq]; exact A.le (by omega) (Nat.le_refl _)))
theorem in_trans {a b c : Tb} (la : LimT a) (lb : LimT b) (lc : LimT c) (h : besideT withinI a b = true) (k : besideT withinI b c = true) : besideT withinI a c = true :=
  (beside_iff (f := withinI) la lc).2 (In2.trans (f := withinI) (g := withinI) (h := withinI) (fun gx gy gz h1 h2 => wi_trans gx gy gz h1 h2) ((beside_iff (f := withinI) la lb).1 h) ((beside_iff (f := withinI) lb lc).1 k))
theorem ins_trans {a b c : Tb} (la : LimT a) (lb : LimT b) (lc : LimT c) (h : besideT insideI a b = true) (k : besideT withinI b c = true) : besideT insideI a c = true :=
  (beside_iff (f := insideI) la lc).2 (In2.trans (f := insideI) (g := withinI) (h := insideI) (fun gx gy gz h1 h2 => ii_trans gx gy gz h1 h2) ((beside_iff (f := insideI) la lb).1 h) ((beside_iff (f := withinI) lb lc).1 k))
theorem rows_limD {ok : Nat → Prop} {w : World} {A : Option Addr} {n c : Nat} {l : List Dy} (h : Sx.Rows Sx.kD ok w A n c l) : ∀ d ∈ l, Lim BB d.m := by
  intro x hx
  obtain ⟨i, hi⟩ := List.mem_iff_getElem?.1 hx
  have hn : 0 < n := by have := (List.getElem?_eq_some_iff.1 hi).1; have := h.len; omega
  obtain ⟨_, _, _, _, _, h4⟩ := h.at_ hn
  obtain ⟨cs, ⟨_, _, _, _, r1⟩, _⟩ := h4 i x hi
  exact r1.lim
theorem rows_limI {ok : Nat → Prop} {w : World} {A : Option Addr} {n c : Nat} {l : List Iv} (h : Sx.Rows Sx.kI ok w A n c l) : ∀ x ∈ l, Lim BB x.lo.m ∧ Lim BB x.hi.m := by
  intro x hx
  obtain ⟨i, hi⟩ := List.mem_iff_getElem?.1 hx
  have hn : 0 < n := by have := (List.getElem?_eq_some_iff.1 hi).1; have := h.len; omega
  obtain ⟨_, _, _, _, _, h4⟩ := h.at_ hn
  obtain ⟨cs, ⟨_, _, _, _, _, _, _, r1, r2⟩, _⟩ := h4 i x hi
  exact ⟨r1.lim, r2.lim⟩
theorem limT {ok ok' : Nat → Prop} {w w' : World} {A B : Option Addr} {n c m d : Nat} {t : Tb} (h : Sx.Rows Sx.kD ok w A n c t.at_) (k : Sx.Rows Sx.kI ok' w' B m d t.v) : LimT t := ⟨rows_limD h, rows_limI k⟩
/-- What TubeTimes asks. -/
theorem times {a b : Tb} {x y : Dy} (P : In2 withinI a b) (gx : GD x) (gy : GD y) (h2 : ZD x ≤ ZD y) (h1 : ZT a 0 ≤ ZD x) (h3 : ZD y ≤ ZT a a.v.length) : ∃ c d, overT a x y = (c, 0) ∧ overT b x y = (d, 0) ∧ withinI c d = true := by
  obtain ⟨A, B, e0, e1, hall⟩ := P
  obtain ⟨c, C⟩ := over_is A gx gy h1 h2 h3
  obtain ⟨d, D⟩ := over_is B gx gy (by omega) h2 (by omega)
  refine ⟨c, d, C.eq, D.eq, C.ok.within D.ok (show Sub c d from C.low (ZD d.lo) (ZD d.hi) fun i v hv p q => ?_)⟩
  have li := get_lt hv
  have hin := A.inc i li
  have a0 := A.le (i := 0) (j := i) (Nat.zero_le _) (by omega)
  have an := A.le (i := i + 1) (j := a.v.length) li (Nat.le_refl _)
  have fin : ∀ k, k < b.v.length → ZT a i < ZT b (k + 1) → ZT b k < ZT a (i + 1) → ZD x ≤ ZT b (k + 1) → ZT b k ≤ ZD y → ZD d.lo ≤ ZD v.lo ∧ ZD v.hi ≤ ZD d.hi := by
    intro k hk o1 o2 m1 m2
    obtain ⟨u, hu⟩ := get_ex (l := b.v) hk (Nat.le_refl _)
    have hw := hall i k v u hv hu o1 o2
    obtain ⟨_, _, w1, w2⟩ := ((A.cells.ok hv).g.within (B.cells.ok hu).g).1 hw
    have := D.each k u hu m1 m2
    exact ⟨Int.le_trans this.1 w1, Int.le_trans w2 this.2⟩
  -- a time of the cell and of the span
  by_cases hx : ZD x < ZT a (i + 1)
  · have key : ∀ t, ZT a i ≤ t → ZD x ≤ t → t < ZT a (i + 1) → t ≤ ZD y → ZD d.lo ≤ ZD v.lo ∧ ZD v.hi ≤ ZD d.hi := by
      intro t t1 t2 t3 t4
      obtain ⟨k, k1, k2, k3⟩ := B.cell (z := t) (by omega) (n := b.v.length) (Nat.le_refl _) (by omega)
      exact fin k k1 (by omega) (by omega) (by omega) (by omega)
    by_cases hm : ZT a i ≤ ZD x
    · exact key (ZD x) hm (Int.le_refl _) hx h2
    · exact key (ZT a i) (Int.le_refl _) (by omega) hin q
  · obtain ⟨k, k1, k2, k3⟩ := B.cellR (z := ZT a (i + 1)) (by omega) (n := b.v.length) (Nat.le_refl _) (by omega)
    exact fin k k1 (by omega) (by omega) (by omega) (by omega)
end Go.Proofs.YtbpfnooloemieaaDoor
namespace Go.Proofs.YtbpfnooloemieaaDoor
open Go.RowKit Pl

/-- What a tube is at a time (from the left). -/
def Val (t : Tb) (z : Int) (v : Iv) : Prop := ∃ k : Nat, t.v[k]? = some v ∧ ZT t k ≤ z ∧ z < ZT t (k + 1)
theorem OkT.lim {t : Tb} (T : OkT t) : LimT t := by
  refine ⟨fun d hd => ?_, fun x hx => ?_⟩
  · obtain ⟨i, hi⟩ := List.mem_iff_getElem?.1 hd
    have h := (T.gd i (by have := T.len; have := get_lt hi; omega)).lim
    rw [atT_is hi] at h
    exact h
  · obtain ⟨i, hi⟩ := List.mem_iff_getElem?.1 hx
    exact ⟨(T.cells i x hi).2.1.lo.lim, (T.cells i x hi).2.1.hi.lim⟩
theorem Val.uniq {t : Tb} (T : OkT t) {z : Int} {u v : Iv} (h : Val t z u) (k : Val t z v) : u = v := by
  obtain ⟨i, h1, h2, h3⟩ := h
  obtain ⟨j, k1, k2, k3⟩ := k
  have li := get_lt h1
  have lj := get_lt k1
  have e : i = j := by
    by_cases a : i < j
    · have := T.le (i := i + 1) (j := j) a (by omega); omega
    · by_cases b : j < i
      · have := T.le (i := j + 1) (j := i) b (by omega); omega
      · omega
  subst e
  exact Option.some.inj (h1.symm.trans k1)
theorem In2.of_val {f : Iv → Iv → Bool} {a b : Tb} (A : OkT a) (B : OkT b) (z0 : ZT a 0 = ZT b 0) (z1 : ZT a a.v.length = ZT b b.v.length) (h : ∀ z u v, Val a z u → Val b z v → f u v = true) : In2 f a b := by
  refine ⟨A, B, z0, z1, fun i k x y hx hy p q => ?_⟩
  have ia := A.inc i (get_lt hx)
  have ib := B.inc k (get_lt hy)
  by_cases hm : ZT a i ≤ ZT b k
  · exact h (ZT b k) x y ⟨i, hx, hm, q⟩ ⟨k, hy, Int.le_refl _, ib⟩
  · exact h (ZT a i) x y ⟨i, hx, Int.le_refl _, ia⟩ ⟨k, hy, by omega, p⟩
/-- One is the other, at all times. -/
structure Eqv (a b : Tb) : Prop where
  A : OkT a
  B : OkT b
  z0 : ZT a 0 = ZT b 0
  z1 : ZT a a.v.length = ZT b b.v.length
  val : ∀ z v, Val a z v → Val b z v
theorem val_ok {a : Tb} (A : OkT a) {z : Int} {v : Iv} (h : Val a z v) : OkI v := by
  obtain ⟨k, h1, _⟩ := h
  exact A.cells.ok h1
theorem wi_self {v : Iv} (h : OkI v) : withinI v v = true := h.within h ⟨Int.le_refl _, Int.le_refl _⟩
theorem Eqv.ab {a b : Tb} (E : Eqv a b) : besideT withinI a b = true :=
  (beside_iff E.A.lim E.B.lim).2 (In2.of_val E.A E.B E.z0 E.z1 fun z u v hu hv => by
    rw [Val.uniq E.B hv (E.val z u hu)]
    exact wi_self (val_ok E.A hu))
theorem Eqv.ba {a b : Tb} (E : Eqv a b) : besideT withinI b a = true :=
  (beside_iff E.B.lim E.A.lim).2 (In2.of_val E.B E.A E.z0.symm E.z1.symm fun z u v hu hv => by
    rw [Val.uniq E.B hu (E.val z v hv)]
    exact wi_self (val_ok E.A hv))
theorem atT_push1 {p : List Dy} {e : Dy} {i : Nat} (h : i < p.length) : atT (p ++ [e]) i = atT p i := by
  unfold atT
  rw [List.getElem?_append_left h]
theorem atT_push2 {p : List Dy} {e : Dy} {i : Nat} (h : i = p.length) : atT (p ++ [e]) i = e := by
  unfold atT
  rw [h, List.getElem?_append_right (Nat.le_refl _), Nat.sub_self]
  rfl
/-- A tube that is being built: up to a time it is what another one is. -/
structure Bld (t : Tb) (p : List Dy) (q : List Iv) (L : Int) : Prop where
  len : p.length = q.length + 1
  gd : ∀ i, i ≤ q.length → GD (atT p i)
  inc : ∀ i, i < q.length → ZD (atT p i) < ZD (atT p (i + 1))
  last : ZD (atT p q.length) = L
  ok : OkB q
  val : ∀ (k : Nat) v z, q[k]? = some v → ZD (atT p k) ≤ z → z < ZD (atT p (k + 1)) → Val t z v
theorem Bld.one {t : Tb} {x : Dy} (gx : GD x) : Bld t [x] [] (ZD x) := by
  refine ⟨rfl, fun i hi => ?_, fun i hi => (by simp at hi), rfl, fun i v hv => (by simp at hv), fun k v z hv => (by simp at hv)⟩
  have : i = 0 := by simpa using hi
  subst this
  exact gx
theorem Bld.push {t : Tb} {p : List Dy} {q : List Iv} {L : Int} (B : Bld t p q L) {e : Dy} {v : Iv} (ge : GD e) (hL : L < ZD e) (hv : OkI v) (h : ∀ z, L ≤ z → z < ZD e → Val t z v) : Bld t (p ++ [e]) (q ++ [v]) (ZD e) := by
  have hl := B.len
  have e1 : ∀ i, i ≤ q.length → atT (p ++ [e]) i = atT p i := fun i hi => atT_push1 (by omega)
  have e2 : atT (p ++ [e]) (q.length + 1) = e := atT_push2 (by omega)
  have hlen : (q ++ [v]).length = q.length + 1 := by simp
  refine ⟨by simp [hl], fun i hi => ?_, fun i hi => ?_, ?_, fun i u hu => ?_, fun k u z hu h1 h2 => ?_⟩
  · rw [hlen] at hi
    by_cases hi2 : i ≤ q.length
    · rw [e1 i hi2]; exact B.gd i hi2
    · rw [show i = q.length + 1 by omega, e2]; exact ge
  · rw [hlen] at hi
    by_cases hi2 : i < q.length
    · rw [e1 i (by omega), e1 (i + 1) (by omega)]; exact B.inc i hi2
    · rw [show i = q.length by omega, e1 _ (Nat.le_refl _), e2, B.last]; exact hL
  · rw [hlen, e2]
  · have hi := get_lt hu
    rw [hlen] at hi
    by_cases hi2 : i < q.length
    · rw [List.getElem?_append_left hi2] at hu
      exact B.ok i u hu
    · rw [show i = q.length by omega, List.getElem?_append_right (Nat.le_refl _), Nat.sub_self] at hu
      obtain rfl := Option.some.inj hu
      exact ⟨hv.may, hv.g, hv.le⟩
  · have hi := get_lt hu
    rw [hlen] at hi
    by_cases hi2 : k < q.length
    · rw [List.getElem?_append_left hi2] at hu
      rw [e1 k (by omega)] at h1
      rw [e1 (k + 1) (by omega)] at h2
      exact B.val k u z hu h1 h2
    · rw [show k = q.length by omega, List.getElem?_append_right (Nat.le_refl _), Nat.sub_self] at hu
      obtain rfl := Option.some.inj hu
      rw [show k = q.length by omega] at h1 h2
      rw [e1 _ (Nat.le_refl _), B.last] at h1
      rw [e2] at h2
      exact h z h1 h2
theorem OkT.mk' {t : Tb} (hp : 0 < t.v.length) (hf : t.v.length ≤ 256) (hl : t.at_.length = t.v.length + 1) (gd : ∀ i, i ≤ t.v.length → GD (atT t.at_ i)) (inc : ∀ i, i < t.v.length → ZT t i < ZT t (i + 1)) (ok : OkB t.v) : OkT t := by
  refine ⟨?_, hp, hf, hl, gd, inc, ok⟩
  unfold mayT
  rw [decide_eq_false (show ¬ (((t.v.length : Nat) : Int) < 1) by omega), decide_eq_false (show ¬ ((256 : Int) < ((t.v.length : Nat) : Int)) by omega), hl, ok.may]
  have : allT t.at_ 0 = true := by
    unfold allT
    rw [List.all_eq_true]
    intro i hi
    rw [List.mem_range'] at hi
    obtain ⟨j, hj, rfl⟩ := hi
    rw [hl] at hj
    unfold stepT
    rw [(gd (0 + 1 * j) (by omega)).may, Bool.true_and, Bool.or_eq_true]
    by_cases h0 : j = 0
    · subst h0
      exact .inl rfl
    · refine .inr (decide_eq_true (((gd _ (by omega)).lt (gd _ (by omega))).2 ?_))
      have := inc (0 + 1 * j - 1) (by omega)
      rw [show 0 + 1 * j - 1 + 1 = 0 + 1 * j by omega] at this
      exact this
  rw [this]
  simp
theorem Bld.tube {t : Tb} {p : List Dy} {q : List Iv} {L : Int} (B : Bld t p q L) (hp : 0 < q.length) (hf : q.length ≤ 256) : OkT ⟨p, q⟩ := OkT.mk' (t := ⟨p, q⟩) hp hf B.len B.gd B.inc B.ok
theorem Bld.vals {t : Tb} {p : List Dy} {q : List Iv} {L : Int} (B : Bld t p q L) : ∀ z v, Val ⟨p, q⟩ z v → Val t z v := fun z v ⟨k, h1, h2, h3⟩ => B.val k v z h1 h2 h3
/-- The middle of two. -/
theorem mid_is {a b d : Dy} (ga : GD a) (gb : GD b) (h : ZD a < ZD b) (e : midI ⟨a, b⟩ = (d, 0)) : GD d ∧ ZD a < ZD d ∧ ZD d < ZD b := by
  have hm : mayI ⟨a, b⟩ = true := (GI.may (a := ⟨a, b⟩) ⟨ga, gb⟩).2 (Int.le_of_lt h)
  unfold midI at e
  rw [hm, cond_true, twoS_of ga.may gb.may, sumS_Z ga.may ga.lim gb.may gb.lim] at e
  cases hs : fitZ (ZD a + ZD b) with
  | mk s x =>
    simp only [hs] at e
    by_cases hx : x = 0
    · subst hx
      rw [show ((0 : Int) != 0) = false from rfl, cond_false] at e
      obtain ⟨m1, m2, m3⟩ := fitZ_post hs
      obtain ⟨n1, n2, n3⟩ := shiftS_post m1 m2 e
      refine ⟨⟨n1, n2⟩, ?_⟩
      rcases n3 with ⟨h0, rfl⟩ | ⟨_, _, n4⟩
      · have := ZD_nil h0
        omega
      · have hT := TT_eq
        have hp : (2 : Nat) ^ TT = 2 ^ (-1 + (TT : Int)).toNat * 2 := by
          rw [← Nat.pow_succ]
          congr 1 <;> omega
        rw [hp] at n4
        have hpos : 0 < (2 : Nat) ^ (-1 + (TT : Int)).toNat := Nat.two_pow_pos _
        generalize (2 : Nat) ^ (-1 + (TT : Int)).toNat = R at *
        rw [Int.natCast_mul, ← Int.mul_assoc] at n4
        have n5 : ZD d * 2 * (R : Int) = ZD s * (R : Int) := by
          rw [← n4, Int.mul_assoc, Int.mul_assoc, Int.mul_comm (2 : Int)]
          rfl
        have n6 := Int.eq_of_mul_eq_mul_right (by omega) n5
        omega
    · have : (x != 0) = true := by simpa using hx
      rw [this, cond_true] at e
      exact absurd (Prod.mk.inj e).2 hx
/-- Halves. -/
theorem halvL_is {t : Tb} (T : OkT t) : ∀ (vs : List Iv) (i : Nat) (p : List Dy) (q : List Iv) (m : Tb), vs = t.v.drop i → i ≤ t.v.length → q.length = 2 * i → Bld t p q (ZT t i) → halvL t.at_ i p q vs = (m, 0) → m.v.length = 2 * t.v.length ∧ atT m.at_ 0 = atT p 0 ∧ Bld t m.at_ m.v (ZT t t.v.length)
  | [], i, p, q, m, hvs, hi, hq, B, e => by
    have : i = t.v.length := by
      have := congrArg List.length hvs
      rw [List.length_drop, List.length_nil] at this
      omega
    subst this
    obtain rfl := (Prod.mk.inj e).1
    exact ⟨hq, rfl, B⟩
  | v :: vs, i, p, q, m, hvs, hi, hq, B, e => by
    have hlt : i < t.v.length := by
      have := congrArg List.length hvs
      rw [List.length_drop, List.length_cons] at this
      omega
    have hv : t.v[i]? = some v := by
      have := congrArg (fun l => l[0]?) hvs
      simpa using this.symm
    have hvs' : vs = t.v.drop (i + 1) := by
      have := congrArg List.tail hvs
      simpa using this
    have e2 : halvL t.at_ i p q (v :: vs) = bif (midI ⟨atT t.at_ i, atT t.at_ (i + 1)⟩).2 != 0 then (nilT, (midI ⟨atT t.at_ i, atT t.at_ (i + 1)⟩).2) else halvL t.at_ (i + 1) (p ++ [(midI ⟨atT t.at_ i, atT t.at_ (i + 1)⟩).1, atT t.at_ (i + 1)]) (q ++ [v, v]) vs := rfl
    rw [e2] at e
    cases hm : midI ⟨atT t.at_ i, atT t.at_ (i + 1)⟩ with
    | mk d x =>
      simp only [hm] at e
      by_cases hx : x = 0
      · subst hx
        rw [show ((0 : Int) != 0) = false from rfl, cond_false] at e
        have ga := T.gd i (by omega)
        have gb := T.gd (i + 1) hlt
        obtain ⟨gd, d1, d2⟩ := mid_is ga gb (T.inc i hlt) hm
        have hok := T.cells.ok hv
        have B1 := B.push (e := d) (v := v) gd d1 hok fun z z1 z2 => ⟨i, hv, z1, by have : z < ZT t (i + 1) := Int.lt_trans z2 d2; exact this⟩
        have B2 := B1.push (e := atT t.at_ (i + 1)) (v := v) gb d2 hok fun z z1 z2 => ⟨i, hv, by have : ZT t i < ZD d := d1; omega, z2⟩
        rw [List.append_assoc, List.append_assoc] at B2
        have r := halvL_is T vs (i + 1) _ _ m hvs' hlt (by rw [List.length_append, hq]; show 2 * i + 2 = _; omega) B2 e
        refine ⟨r.1, r.2.1.trans ?_, r.2.2⟩
        unfold atT
        rw [List.getElem?_append_left (by have := B.len; omega)]
      · have : (x != 0) = true := by simpa using hx
        rw [this, cond_true] at e
        exact absurd (Prod.mk.inj e).2 hx
theorem halve_is {t m : Tb} (T : OkT t) (e : halveT t = (m, 0)) : m.v.length = 2 * t.v.length ∧ Eqv m t ∧ atT m.at_ 0 = atT t.at_ 0 := by
  unfold halveT at e
  rw [T.may, Bool.true_and] at e
  by_cases hf : (256 : Int) < ((2 * t.v.length : Nat) : Int)
  · rw [decide_eq_true hf] at e
    exact absurd (Prod.mk.inj e).2 (by decide)
  · rw [decide_eq_false hf] at e
    obtain ⟨r1, r2, B⟩ := halvL_is T t.v 0 _ _ m rfl (Nat.zero_le _) rfl (Bld.one (T.gd 0 (Nat.zero_le _))) e
    have hn := T.n
    have M : OkT m := B.tube (p := m.at_) (q := m.v) (by omega) (by omega)
    refine ⟨r1, ⟨M, T, ?_, B.last, B.vals⟩, r2⟩
    unfold ZT
    rw [r2]
    rfl
/-- Cuts. -/
theorem cutL_is {t : Tb} {x y : Dy} (T : OkT t) (gx : GD x) (gy : GD y) (hxy : ZD x < ZD y) : ∀ (vs : List Iv) (i : Nat) (p : List Dy) (q : List Iv) (L : Int), vs = t.v.drop i → i ≤ t.v.length → q.length ≤ i → Bld t p q L → ((L = ZD x ∧ ZT t i ≤ ZD x) ∨ (L = ZT t i ∧ ZD x < ZT t i ∧ ZT t i < ZD y) ∨ (L = ZD y ∧ ZD y ≤ ZT t i)) →
    ∃ L', (cutL t.at_ x y i p q vs).v.length ≤ t.v.length ∧ atT (cutL t.at_ x y i p q vs).at_ 0 = atT p 0 ∧ Bld t (cutL t.at_ x y i p q vs).at_ (cutL t.at_ x y i p q vs).v L' ∧ ((L' = ZD x ∧ ZT t t.v.length ≤ ZD x) ∨ (L' = ZT t t.v.length ∧ ZD x < ZT t t.v.length ∧ ZT t t.v.length < ZD y) ∨ (L' = ZD y ∧ ZD y ≤ ZT t t.v.length))
  | [], i, p, q, L, hvs, hi, hq, B, hL => by
    have : i = t.v.length := by
      have := congrArg List.length hvs
      rw [List.length_drop, List.length_nil] at this
      omega
    subst this
    exact ⟨L, hq, rfl, B, hL⟩
  | v :: vs, i, p, q, L, hvs, hi, hq, B, hL => by
    have hlt : i < t.v.length := by
      have := congrArg List.length hvs
      rw [List.length_drop, List.length_cons] at this
      omega
    have hv : t.v[i]? = some v := by
      have := congrArg (fun l => l[0]?) hvs
      simpa using this.symm
    have hvs' : vs = t.v.drop (i + 1) := by
      have := congrArg List.tail hvs
      simpa using this
    have ga := T.gd i (by omega)
    have gb := T.gd (i + 1) hlt
    have inc := T.inc i hlt
    have e1 : ZD (atT t.at_ i) = ZT t i := rfl
    have e2 : ZD (atT t.at_ (i + 1)) = ZT t (i + 1) := rfl
    have e3 : cutL t.at_ x y i p q (v :: vs) = bif decide (cmpD (atT t.at_ (i + 1)) x ≤ 0) || decide ((0 : Int) ≤ cmpD (atT t.at_ i) y) then cutL t.at_ x y (i + 1) p q vs else cutL t.at_ x y (i + 1) (p ++ [bif decide ((0 : Int) < cmpD (atT t.at_ (i + 1)) y) then y else atT t.at_ (i + 1)]) (q ++ [v]) vs := rfl
    rw [e3]
    cases hc : decide (cmpD (atT t.at_ (i + 1)) x ≤ 0) || decide ((0 : Int) ≤ cmpD (atT t.at_ i) y) with
    | true =>
      rw [cond_true]
      rw [Bool.or_eq_true] at hc
      refine cutL_is T gx gy hxy vs (i + 1) p q L hvs' hlt (by omega) B ?_
      rcases hc with hc | hc
      · have := (gb.le gx).1 (of_decide_eq_true hc)
        rw [e2] at this
        omega
      · have := (ga.ge gy).1 (of_decide_eq_true hc)
        rw [e1] at this
        omega
    | false =>
      rw [cond_false]
      rw [Bool.or_eq_false_iff] at hc
      have c1 : ZD x < ZT t (i + 1) := by
        have := of_decide_eq_false hc.1
        rw [gb.le gx] at this
        omega
      have c2 : ZT t i < ZD y := by
        have := of_decide_eq_false hc.2
        rw [ga.ge gy] at this
        omega
      have hok := T.cells.ok hv
      have h0 : ∀ e, atT (p ++ [e]) 0 = atT p 0 := fun e => atT_push1 (by have := B.len; omega)
      have hql : (q ++ [v]).length ≤ i + 1 := by rw [List.length_append]; simp only [List.length_cons, List.length_nil]; omega
      cases hy : decide ((0 : Int) < cmpD (atT t.at_ (i + 1)) y) with
      | true =>
        rw [cond_true]
        have c3 := (gb.gt gy).1 (of_decide_eq_true hy)
        rw [e2] at c3
        have B1 := B.push (e := y) (v := v) gy (by omega) hok fun z z1 z2 => ⟨i, hv, by omega, by omega⟩
        obtain ⟨L', r1, r2, r3, r4⟩ := cutL_is T gx gy hxy vs (i + 1) _ _ _ hvs' hlt hql B1 (by omega)
        exact ⟨L', r1, r2.trans (h0 _), r3, r4⟩
      | false =>
        rw [cond_false]
        have c3 : ¬ ZD y < ZT t (i + 1) := fun h => of_decide_eq_false hy ((gb.gt gy).2 h)
        have B1 := B.push (e := atT t.at_ (i + 1)) (v := v) gb (by rw [e2]; omega) hok fun z z1 z2 => ⟨i, hv, by omega, by rw [e2] at z2; exact z2⟩
        rw [e2] at B1
        obtain ⟨L', r1, r2, r3, r4⟩ := cutL_is T gx gy hxy vs (i + 1) _ _ _ hvs' hlt hql B1 (by omega)
        exact ⟨L', r1, r2.trans (h0 _), r3, r4⟩
structure Cut (t : Tb) (x y : Dy) (c : Tb) : Prop where
  eq : cutT t x y = (c, 0)
  C : OkT c
  few : c.v.length ≤ t.v.length
  first : atT c.at_ 0 = x
  z0 : ZT c 0 = ZD x
  z1 : ZT c c.v.length = ZD y
  val : ∀ z v, Val c z v → Val t z v
theorem cut_is {t : Tb} {x y : Dy} (T : OkT t) (gx : GD x) (gy : GD y) (h1 : ZT t 0 ≤ ZD x) (h2 : ZD x < ZD y) (h3 : ZD y ≤ ZT t t.v.length) : ∃ c, Cut t x y c := by
  have e : cutT t x y = (cutL t.at_ x y 0 [x] [] t.v, 0) := by
    unfold cutT
    rw [T.may, gx.may, gy.may, decide_eq_false (fun h => by have := (gx.ge gy).1 h; omega), (holds_iff T gx).2 ⟨h1, by omega⟩, (holds_iff T gy).2 ⟨by omega, h3⟩]
    rfl
  obtain ⟨L', r1, r2, B, r4⟩ := cutL_is T gx gy h2 t.v 0 [x] [] (ZD x) rfl (Nat.zero_le _) (Nat.le_refl _) (Bld.one gx) (.inl ⟨rfl, h1⟩)
  generalize cutL t.at_ x y 0 [x] [] t.v = c at *
  have z0 : ZT c 0 = ZD x := by unfold ZT; rw [r2]; rfl
  have z1 : ZT c c.v.length = ZD y := by
    rcases r4 with ⟨_, h⟩ | ⟨_, h⟩ | ⟨h, _⟩
    · omega
    · omega
    · exact B.last.trans h
  have hpos : 0 < c.v.length := by
    rcases Nat.eq_zero_or_pos c.v.length with h | h
    · rw [h] at z1
      omega
    · exact h
  have hf := T.few
  exact ⟨c, e, B.tube (p := c.at_) (q := c.v) hpos (by omega), r1, r2, z0, z1, B.vals⟩
/-- One behind the other. -/
structure Joi (a b : Tb) (c : Tb) : Prop where
  eq : joinT a b = (c, 0)
  C : OkT c
  len : c.v.length = a.v.length + b.v.length
  z0 : ZT c 0 = ZT a 0
  z1 : ZT c c.v.length = ZT b b.v.length
  val : ∀ z v, Val c z v → Val a z v ∨ Val b z v
theorem join_is {a b : Tb} (A : OkT a) (B : OkT b) (h : ZT a a.v.length = ZT b 0) (hf : a.v.length + b.v.length ≤ 256) : ∃ c, Joi a b c := by
  refine ⟨⟨a.at_ ++ b.at_.drop 1, a.v ++ b.v⟩, ?_⟩
  have la := A.len
  have lb := B.len
  have na := A.n
  have e1 : ∀ i, i ≤ a.v.length → atT (a.at_ ++ b.at_.drop 1) i = atT a.at_ i := fun i hi => by
    unfold atT
    rw [List.getElem?_append_left (by omega)]
  have e2 : ∀ i, a.v.length < i → atT (a.at_ ++ b.at_.drop 1) i = atT b.at_ (i - a.v.length) := fun i hi => by
    unfold atT
    rw [List.getElem?_append_right (by omega), List.getElem?_drop, show 1 + (i - a.at_.length) = i - a.v.length by omega]
  have z2 : ∀ i, a.v.length ≤ i → ZD (atT (a.at_ ++ b.at_.drop 1) i) = ZT b (i - a.v.length) := fun i hi => by
    by_cases hi2 : i = a.v.length
    · rw [hi2, e1 _ (Nat.le_refl _), Nat.sub_self]
      exact h
    · rw [e2 i (by omega)]
      rfl
  have hl : (a.v ++ b.v).length = a.v.length + b.v.length := List.length_append
  have hinc : ∀ i, i < (a.v ++ b.v).length → ZD (atT (a.at_ ++ b.at_.drop 1) i) < ZD (atT (a.at_ ++ b.at_.drop 1) (i + 1)) := fun i hi => by
    by_cases hi2 : i < a.v.length
    · rw [e1 i (by omega), e1 (i + 1) hi2]
      exact A.inc i hi2
    · rw [z2 i (by omega), z2 (i + 1) (by omega), show i + 1 - a.v.length = i - a.v.length + 1 by omega]
      exact B.inc _ (by omega)
  have C : OkT ⟨a.at_ ++ b.at_.drop 1, a.v ++ b.v⟩ := by
    refine OkT.mk' (by show 0 < (a.v ++ b.v).length; omega) (by show (a.v ++ b.v).length ≤ 256; omega) (by show (a.at_ ++ b.at_.drop 1).length = (a.v ++ b.v).length + 1; rw [hl, List.length_append, List.length_drop]; omega) (fun i hi => ?_) hinc (fun i v hv => ?_)
    · have hi : i ≤ (a.v ++ b.v).length := hi
      show GD (atT (a.at_ ++ b.at_.drop 1) i)
      by_cases hi2 : i ≤ a.v.length
      · rw [e1 i hi2]; exact A.gd i hi2
      · rw [e2 i (by omega)]; exact B.gd _ (by omega)
    · have hv : (a.v ++ b.v)[i]? = some v := hv
      by_cases hi2 : i < a.v.length
      · rw [List.getElem?_append_left hi2] at hv
        exact A.cells i v hv
      · rw [List.getElem?_append_right (by omega)] at hv
        exact B.cells _ v hv
  refine ⟨?_, C, hl, ?_, ?_, ?_⟩
  · unfold joinT
    rw [A.may, B.may, (ne0 A.gl B.gf).2 (by rw [lastT_Z A, firstT_Z]; exact h), decide_eq_false (show ¬ ((256 : Int) < ((a.v.length + b.v.length : Nat) : Int)) by omega)]
    rfl
  · show ZD (atT (a.at_ ++ b.at_.drop 1) 0) = _
    rw [e1 0 (Nat.zero_le _)]
    rfl
  · show ZD (atT (a.at_ ++ b.at_.drop 1) (a.v ++ b.v).length) = _
    rw [z2 _ (by omega), hl, Nat.add_sub_cancel_left]
  · rintro z v ⟨k, h1, h2, h3⟩
    have h1 : (a.v ++ b.v)[k]? = some v := h1
    have h2 : ZD (atT (a.at_ ++ b.at_.drop 1) k) ≤ z := h2
    have h3 : z < ZD (atT (a.at_ ++ b.at_.drop 1) (k + 1)) := h3
    by_cases hk : k < a.v.length
    · rw [List.getElem?_append_left hk] at h1
      rw [e1 k (by omega)] at h2
      rw [e1 (k + 1) hk] at h3
      exact .inl ⟨k, h1, h2, h3⟩
    · rw [List.getElem?_append_right (by omega)] at h1
      rw [z2 k (by omega)] at h2
      rw [z2 (k + 1) (by omega), show k + 1 - a.v.length = k - a.v.length + 1 by omega] at h3
      exact .inr ⟨_, h1, h2, h3⟩
end Go.Proofs.YtbpfnooloemieaaDoor
