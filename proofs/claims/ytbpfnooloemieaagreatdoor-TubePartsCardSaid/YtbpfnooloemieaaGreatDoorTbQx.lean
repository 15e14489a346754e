/- The plain laws of tubes: one in another is a matter of the cells that overlap. The plain laws of tubes: hulls over spans. -/
import Derived.Test.YtbpfnooloemieaaGreatDoorTbPx
import Derived.Test.YtbpfnooloemieaaGreatDoorBxPx
namespace Go.Proofs.YtbpfnooloemieaaGreatDoor
open Go.RowKit Pl

def LimT (t : Tb) : Prop := (∀ d ∈ t.at_, Lim BB d.m) ∧ ∀ x ∈ t.v, Lim BB x.lo.m ∧ Lim BB x.hi.m
/-- The i-th time as a number. -/
def ZT (t : Tb) (i : Nat) : Int := ZD (atT t.at_ i)
structure OkT (t : Tb) : Prop where
  may : mayT t = true
  n : 0 < t.v.length
  few : t.v.length ≤ 256
  len : t.at_.length = t.v.length + 1
  gd : ∀ i, i ≤ t.v.length → GD (atT t.at_ i)
  inc : ∀ i, i < t.v.length → ZT t i < ZT t (i + 1)
  cells : OkB t.v
theorem allT_all {l : List Dy} (h : allT l 0 = true) : ∀ i, i < l.length → stepT l i = true := by
  intro i hi
  unfold allT at h
  rw [List.all_eq_true] at h
  exact h i (by rw [List.mem_range']; exact ⟨i, by omega, by omega⟩)
theorem GD.lt {a b : Dy} (A : GD a) (B : GD b) : (cmpD a b < 0) ↔ ZD a < ZD b := by
  have := A.ge B
  omega
theorem GD.eq0 {a b : Dy} (A : GD a) (B : GD b) : cmpD a b = 0 ↔ ZD a = ZD b := by
  have h1 := A.ge B
  have h2 := A.le B
  omega
theorem atT_mem {l : List Dy} {i : Nat} (h : i < l.length) : atT l i ∈ l := by
  unfold atT
  rw [List.getElem?_eq_getElem h]
  exact List.getElem_mem h
theorem OkT.of {t : Tb} (h : mayT t = true) (hl : LimT t) : OkT t := by
  have M := MayT.of h
  have st := allT_all M.inc
  have gd : ∀ i, i ≤ t.v.length → GD (atT t.at_ i) := fun i hi => by
    have := st i (by have := M.len; omega)
    unfold stepT at this
    rw [Bool.and_eq_true] at this
    exact ⟨this.1, hl.1 _ (atT_mem (by have := M.len; omega))⟩
  refine ⟨h, M.pos, M.few, M.len, gd, fun i hi => ?_, OkB.mk' M.may hl.2⟩
  have := st (i + 1) (by have := M.len; omega)
  unfold stepT at this
  rw [Bool.and_eq_true, Bool.or_eq_true] at this
  rcases this.2 with h2 | h2
  · have := of_decide_eq_true h2
    omega
  · have := of_decide_eq_true h2
    rw [Nat.add_sub_cancel] at this
    exact ((gd i (by omega)).lt (gd (i + 1) (by omega))).1 this
theorem OkT.lt {t : Tb} (T : OkT t) {i : Nat} : ∀ {j : Nat}, i < j → j ≤ t.v.length → ZT t i < ZT t j
  | j + 1, h, hj => by
    have h1 := T.inc j (by omega)
    by_cases e : i = j
    · rw [e]; exact h1
    · exact Int.lt_trans (T.lt (by omega) (by omega)) h1
theorem OkT.le {t : Tb} (T : OkT t) {i j : Nat} (h : i ≤ j) (hj : j ≤ t.v.length) : ZT t i ≤ ZT t j := by
  by_cases e : i = j
  · rw [e]; exact Int.le_refl _
  · exact Int.le_of_lt (T.lt (by omega) hj)
/-- The cell that a time lies in, from the left. -/
theorem OkT.cell {t : Tb} (T : OkT t) {z : Int} (h0 : ZT t 0 ≤ z) : ∀ {n : Nat}, n ≤ t.v.length → z < ZT t n → ∃ k, k < n ∧ ZT t k ≤ z ∧ z < ZT t (k + 1)
  | 0, _, h => by omega
  | n + 1, hn, h => by
    by_cases h2 : ZT t n ≤ z
    · exact ⟨n, by omega, h2, h⟩
    · obtain ⟨k, h3, h4⟩ := T.cell h0 (n := n) (by omega) (by omega)
      exact ⟨k, by omega, h4⟩
/-- From the right. -/
theorem OkT.cellR {t : Tb} (T : OkT t) {z : Int} (h0 : ZT t 0 < z) : ∀ {n : Nat}, n ≤ t.v.length → z ≤ ZT t n → ∃ k, k < n ∧ ZT t k < z ∧ z ≤ ZT t (k + 1)
  | 0, _, h => by omega
  | n + 1, hn, h => by
    by_cases h2 : ZT t n < z
    · exact ⟨n, by omega, h2, h⟩
    · obtain ⟨k, h3, h4⟩ := T.cellR h0 (n := n) (by omega) (by omega)
      exact ⟨k, by omega, h4⟩
/-- All that overlap. -/
def Over2 (f : Iv → Iv → Bool) (a b : Tb) (i k : Nat) : Prop := ∀ (i' k' : Nat) x y, i ≤ i' → k ≤ k' → a.v[i']? = some x → b.v[k']? = some y → ZT a i' < ZT b (k' + 1) → ZT b k' < ZT a (i' + 1) → f x y = true
theorem walk_iff {f : Iv → Iv → Bool} {a b : Tb} (A : OkT a) (B : OkT b) : ∀ (n i k : Nat), a.v.length + b.v.length + 1 ≤ n + i + k → (i < a.v.length → k < b.v.length → ZT a i < ZT b (k + 1) ∧ ZT b k < ZT a (i + 1)) → (walkT f a b n i k = true ↔ Over2 f a b i k)
  | 0, i, k, hn, _ => by
    refine ⟨fun _ i' k' x y h1 h2 hx hy => ?_, fun _ => rfl⟩
    have := get_lt hx
    have := get_lt hy
    omega
  | n + 1, i, k, hn, hov => by
    by_cases hi : i < a.v.length
    · by_cases hk : k < b.v.length
      · obtain ⟨x, hx⟩ := get_ex (l := a.v) hi (Nat.le_refl _)
        obtain ⟨y, hy⟩ := get_ex (l := b.v) hk (Nat.le_refl _)
        obtain ⟨o1, o2⟩ := hov hi hk
        have ga := A.gd (i + 1) hi
        have gb := B.gd (k + 1) hk
        have e : walkT f a b (n + 1) i k = (f x y && (bif decide (cmpD (atT a.at_ (i + 1)) (atT b.at_ (k + 1)) < 0) then walkT f a b n (i + 1) k else bif cmpD (atT a.at_ (i + 1)) (atT b.at_ (k + 1)) == 0 then walkT f a b n (i + 1) (k + 1) else walkT f a b n i (k + 1))) := by
          rw [show walkT f a b (n + 1) i k = (match a.v[i]?, b.v[k]? with
            | some x, some y => f x y && (bif decide (cmpD (atT a.at_ (i + 1)) (atT b.at_ (k + 1)) < 0) then walkT f a b n (i + 1) k else bif cmpD (atT a.at_ (i + 1)) (atT b.at_ (k + 1)) == 0 then walkT f a b n (i + 1) (k + 1) else walkT f a b n i (k + 1))
            | _, _ => true) from rfl, hx, hy]
        have key : ∀ i2 k2, i ≤ i2 → k ≤ k2 → (∀ (i' k' : Nat), i ≤ i' → k ≤ k' → i' < a.v.length → k' < b.v.length → ZT a i' < ZT b (k' + 1) → ZT b k' < ZT a (i' + 1) → (i' = i ∧ k' = k) ∨ (i2 ≤ i' ∧ k2 ≤ k')) → ((f x y = true ∧ Over2 f a b i2 k2) ↔ Over2 f a b i k) := by
          intro i2 k2 hi2 hk2 hc
          constructor
          · rintro ⟨h1, h2⟩ i' k' u v g1 g2 hu hv p q
            rcases hc i' k' g1 g2 (get_lt hu) (get_lt hv) p q with ⟨rfl, rfl⟩ | ⟨g3, g4⟩
            · rw [hx] at hu
              rw [hy] at hv
              cases hu
              cases hv
              exact h1
            · exact h2 i' k' u v g3 g4 hu hv p q
          · intro h
            exact ⟨h i k x y (Nat.le_refl _) (Nat.le_refl _) hx hy o1 o2, fun i' k' u v g1 g2 => h i' k' u v (by omega) (by omega)⟩
        rw [e, Bool.and_eq_true]
        have ha : ZD (atT a.at_ (i + 1)) = ZT a (i + 1) := rfl
        have hb : ZD (atT b.at_ (k + 1)) = ZT b (k + 1) := rfl
        rcases Int.lt_trichotomy (ZT a (i + 1)) (ZT b (k + 1)) with h | h | h
        · rw [decide_eq_true ((ga.lt gb).2 (by rw [ha, hb]; exact h)), cond_true, walk_iff A B n (i + 1) k (by omega) (fun g1 g2 => ⟨h, by have := A.inc (i + 1) g1; omega⟩)]
          refine key (i + 1) k (by omega) (by omega) fun i' k' g1 g2 g3 g4 p q => ?_
          by_cases e1 : i' = i
          · by_cases e2 : k' = k
            · exact .inl ⟨e1, e2⟩
            · have := B.le (i := k + 1) (j := k') (by omega) (by omega)
              rw [e1] at q
              omega
          · exact .inr ⟨by omega, g2⟩
        · rw [decide_eq_false (fun g => by have := (ga.lt gb).1 g; rw [ha, hb] at this; omega), cond_false, show (cmpD (atT a.at_ (i + 1)) (atT b.at_ (k + 1)) == 0) = true by rw [(ga.eq0 gb).2 (by rw [ha, hb]; exact h)]; rfl, cond_true, walk_iff A B n (i + 1) (k + 1) (by omega) (fun g1 g2 => ⟨by have := B.inc (k + 1) g2; omega, by have := A.inc (i + 1) g1; omega⟩)]
          refine key (i + 1) (k + 1) (by omega) (by omega) fun i' k' g1 g2 g3 g4 p q => ?_
          by_cases e1 : i' = i
          · by_cases e2 : k' = k
            · exact .inl ⟨e1, e2⟩
            · have := B.le (i := k + 1) (j := k') (by omega) (by omega)
              rw [e1] at q
              omega
          · by_cases e2 : k' = k
            · have := A.le (i := i + 1) (j := i') (by omega) (by omega)
              rw [e2] at p
              omega
            · exact .inr ⟨by omega, by omega⟩
        · rw [decide_eq_false (fun g => by have := (ga.lt gb).1 g; rw [ha, hb] at this; omega), cond_false, show (cmpD (atT a.at_ (i + 1)) (atT b.at_ (k + 1)) == 0) = false by
            cases hh : cmpD (atT a.at_ (i + 1)) (atT b.at_ (k + 1)) == 0 with
            | false => rfl
            | true => have := (ga.eq0 gb).1 (eq_of_beq hh); rw [ha, hb] at this; omega, cond_false, walk_iff A B n i (k + 1) (by omega) (fun g1 g2 => ⟨by have := B.inc (k + 1) g2; omega, h⟩)]
          refine key i (k + 1) (by omega) (by omega) fun i' k' g1 g2 g3 g4 p q => ?_
          by_cases e2 : k' = k
          · by_cases e1 : i' = i
            · exact .inl ⟨e1, e2⟩
            · have := A.le (i := i + 1) (j := i') (by omega) (by omega)
              rw [e2] at p
              omega
          · exact .inr ⟨g1, by omega⟩
      · refine ⟨fun _ i' k' x y h1 h2 hx hy => by have := get_lt hy; omega, fun _ => ?_⟩
        unfold walkT
        rw [List.getElem?_eq_none (l := b.v) (by omega)]
        cases a.v[i]? <;> rfl
    · refine ⟨fun _ i' k' x y h1 h2 hx hy => by have := get_lt hx; omega, fun _ => ?_⟩
      unfold walkT
      rw [List.getElem?_eq_none (by omega)]
theorem firstT_Z (t : Tb) : ZD (firstT t) = ZT t 0 := rfl
theorem lastT_Z {t : Tb} (T : OkT t) : ZD (lastT t) = ZT t t.v.length := by
  unfold lastT ZT
  rw [T.len, Nat.add_sub_cancel]
theorem OkT.gf {t : Tb} (T : OkT t) : GD (firstT t) := T.gd 0 (Nat.zero_le _)
theorem OkT.gl {t : Tb} (T : OkT t) : GD (lastT t) := by
  unfold lastT
  rw [T.len, Nat.add_sub_cancel]
  exact T.gd _ (Nat.le_refl _)
/-- One in another. -/
structure In2 (f : Iv → Iv → Bool) (a b : Tb) : Prop where
  A : OkT a
  B : OkT b
  z0 : ZT a 0 = ZT b 0
  z1 : ZT a a.v.length = ZT b b.v.length
  all : ∀ (i k : Nat) x y, a.v[i]? = some x → b.v[k]? = some y → ZT a i < ZT b (k + 1) → ZT b k < ZT a (i + 1) → f x y = true
theorem ne0 {a b : Dy} (A : GD a) (B : GD b) : (cmpD a b != 0) = false ↔ ZD a = ZD b := by
  rw [← A.eq0 B]
  simp
theorem beside_iff {f : Iv → Iv → Bool} {a b : Tb} (la : LimT a) (lb : LimT b) : besideT f a b = true ↔ In2 f a b := by
  unfold besideT
  constructor
  · intro h
    simp only [Bool.and_eq_true, Bool.not_eq_true'] at h
    obtain ⟨h1, h2, h3, h4, h5⟩ := h
    have A := OkT.of h1 la
    have B := OkT.of h2 lb
    have e0 := (ne0 A.gf B.gf).1 h3
    have e1 := (ne0 A.gl B.gl).1 h4
    rw [firstT_Z, firstT_Z] at e0
    rw [lastT_Z A, lastT_Z B] at e1
    refine ⟨A, B, e0, e1, fun i k x y hx hy p q => (walk_iff A B _ 0 0 (by omega) fun g1 g2 => ⟨by rw [e0]; exact B.inc 0 g2, by rw [← e0]; exact A.inc 0 g1⟩).1 h5 i k x y (Nat.zero_le _) (Nat.zero_le _) hx hy p q⟩
  · rintro ⟨A, B, e0, e1, hall⟩
    rw [A.may, B.may, (ne0 A.gf B.gf).2 (by rw [firstT_Z, firstT_Z]; exact e0), (ne0 A.gl B.gl).2 (by rw [lastT_Z A, lastT_Z B]; exact e1)]
    have := (walk_iff (f := f) A B (a.v.length + b.v.length + 1) 0 0 (by omega) fun g1 g2 => ⟨by rw [e0]; exact B.inc 0 g2, by rw [← e0]; exact A.inc 0 g1⟩).2 fun i k x y _ _ hx hy p q => hall i k x y hx hy p q
    rw [this]
    rfl
/-- To be in one that is in a third. -/
theorem In2.trans {f g h : Iv → Iv → Bool} {a b c : Tb} (hf : ∀ {x y z}, GI x → GI y → GI z → f x y = true → g y z = true → h x z = true) (P : In2 f a b) (Q : In2 g b c) : In2 h a c := by
  obtain ⟨A, B, e0, e1, h1⟩ := P
  obtain ⟨_, C, e2, e3, h2⟩ := Q
  refine ⟨A, C, by omega, by omega, fun i j x z hx hz p q => ?_⟩
  have li := get_lt hx
  have lj := get_lt hz
  have ia := A.inc i li
  have ic := C.inc j lj
  have a0 := A.le (i := 0) (j := i) (Nat.zero_le _) (by omega)
  have c0 := C.le (i := 0) (j := j) (Nat.zero_le _) (by omega)
  have an := A.le (i := i + 1) (j := a.v.length) li (Nat.le_refl _)
  have cn := C.le (i := j + 1) (j := c.v.length) lj (Nat.le_refl _)
  have key : ∀ t, ZT a i ≤ t → ZT c j ≤ t → t < ZT a (i + 1) → t < ZT c (j + 1) → h x z = true := by
    intro t t1 t2 t3 t4
    obtain ⟨k, k1, k2, k3⟩ := B.cell (z := t) (by omega) (n := b.v.length) (Nat.le_refl _) (by omega)
    obtain ⟨y, hy⟩ := get_ex (l := b.v) k1 (Nat.le_refl _)
    exact hf (A.cells i x hx).2.1 (B.cells k y hy).2.1 (C.cells j z hz).2.1 (h1 i k x y hx hy (by omega) (by omega)) (h2 k j y z hy hz (by omega) (by omega))
  by_cases hm : ZT a i ≤ ZT c j
  · exact key (ZT c j) hm (Int.le_refl _) q ic
  · exact key (ZT a i) (Int.le_refl _) (by omega) ia p
theorem In2.self {a : Tb} (A : OkT a) : In2 withinI a a := by
  refine ⟨A, A, rfl, rfl, fun i k x y hx hy p q => ?_⟩
  have li := get_lt hx
  have lk := get_lt hy
  have e : i = k := by
    by_cases h1 : i < k
    · have := A.le (i := i + 1) (j := k) h1 (by omega); omega
    · by_cases h2 : k < i
      · have := A.le (i := k + 1) (j := i) h2 (by omega); omega
      · omega
  subst e
  rw [hx] at hy
  cases hy
  obtain ⟨_, g, hle⟩ := A.cells i x hx
  exact (g.within g).2 ⟨hle, hle, Int.le_refl _, Int.le_refl _⟩
theorem not_inside {a : Tb} (la : LimT a) : besideT insideI a a = false := by
  cases h : besideT insideI a a with
  | false => rfl
  | true =>
    obtain ⟨A, _, _, _, hall⟩ := (beside_iff la la).1 h
    obtain ⟨x, hx⟩ := get_ex (l := a.v) A.n (Nat.le_refl _)
    have := hall 0 0 x x hx hx (A.inc 0 A.n) (A.inc 0 A.n)
    obtain ⟨_, g, hle⟩ := A.cells 0 x hx
    have := (g.inside g).1 this
    omega
end Go.Proofs.YtbpfnooloemieaaGreatDoor
namespace Go.Proofs.YtbpfnooloemieaaGreatDoor
open Go.RowKit Pl

structure OkI (x : Iv) : Prop where
  may : mayI x = true
  g : GI x
  le : ZD x.lo ≤ ZD x.hi
theorem OkB.ok {a : List Iv} (h : OkB a) {i : Nat} {x : Iv} (hx : a[i]? = some x) : OkI x := let q := h i x hx; ⟨q.1, q.2.1, q.2.2⟩
def Sub (x y : Iv) : Prop := ZD y.lo ≤ ZD x.lo ∧ ZD x.hi ≤ ZD y.hi
theorem OkI.within {x y : Iv} (X : OkI x) (Y : OkI y) (h : Sub x y) : withinI x y = true := (X.g.within Y.g).2 ⟨X.le, Y.le, h.1, h.2⟩
theorem hull_ok {a b : Iv} (A : OkI a) (B : OkI b) : ∃ c, hullI a b = (c, 0) ∧ OkI c ∧ Sub a c ∧ Sub b c ∧ ∀ L H : Int, L ≤ ZD a.lo → ZD a.hi ≤ H → L ≤ ZD b.lo → ZD b.hi ≤ H → L ≤ ZD c.lo ∧ ZD c.hi ≤ H := by
  obtain ⟨k1, k2, k3, k4⟩ := A.g.lo.least B.g.lo
  obtain ⟨k5, k6, k7, k8⟩ := A.g.hi.greatest B.g.hi
  have g : GI ⟨leastD a.lo b.lo, greatestD a.hi b.hi⟩ := ⟨k1, k5⟩
  have := A.le
  have hle : ZD (leastD a.lo b.lo) ≤ ZD (greatestD a.hi b.hi) := by omega
  refine ⟨_, by unfold hullI; rw [A.may, B.may]; rfl, ⟨g.may.2 hle, g, hle⟩, ⟨k3, k7⟩, ⟨k4, k8⟩, fun L H h1 h2 h3 h4 => ⟨?_, ?_⟩⟩
  · show L ≤ ZD (leastD a.lo b.lo)
    omega
  · show ZD (greatestD a.hi b.hi) ≤ H
    omega
def meetsT (l : List Dy) (x y : Dy) (i : Nat) : Prop := (decide (cmpD (atT l (i + 1)) x < 0) || decide ((0 : Int) < cmpD (atT l i) y)) = false
structure Hl (l : List Dy) (x y : Dy) (i : Nat) (s : Bool) (av : Iv) (vs : List Iv) (r : Iv) : Prop where
  ok : OkI r
  all : s = true → Sub av r
  each : ∀ (j : Nat) v, vs[j]? = some v → meetsT l x y (i + j) → Sub v r
  low : ∀ L H : Int, (s = true → L ≤ ZD av.lo ∧ ZD av.hi ≤ H) → (∀ (j : Nat) v, vs[j]? = some v → meetsT l x y (i + j) → L ≤ ZD v.lo ∧ ZD v.hi ≤ H) → L ≤ ZD r.lo ∧ ZD r.hi ≤ H
theorem over_hull' {l : List Dy} {x y : Dy} : ∀ (vs : List Iv) (i : Nat) (s : Bool) (all : Iv), (∀ (j : Nat) v, vs[j]? = some v → OkI v) → (s = true → OkI all) → (s = true ∨ ∃ (j : Nat) (v : Iv), vs[j]? = some v ∧ meetsT l x y (i + j)) → Hl l x y i s all vs (overL l x y i s all vs)
  | [], i, s, all, _, ha, hs => by
    rcases hs with hs | ⟨j, v, hv, _⟩
    · exact ⟨ha hs, fun _ => ⟨Int.le_refl _, Int.le_refl _⟩, fun j v hv => by simp at hv, fun L H h1 _ => h1 hs⟩
    · simp at hv
  | v :: vs, i, s, all, hok, ha, hs => by
    have hv := hok 0 v rfl
    have hok' : ∀ (j : Nat) u, vs[j]? = some u → OkI u := fun j u hu => hok (j + 1) u (by simpa using hu)
    have step : ∀ (c : Bool), (decide (cmpD (atT l (i + 1)) x < 0) || decide ((0 : Int) < cmpD (atT l i) y)) = c → overL l x y i s all (v :: vs) = bif c then overL l x y (i + 1) s all vs else bif s then overL l x y (i + 1) true (hullI all v).1 vs else overL l x y (i + 1) true v vs := by
      intro c hc
      rw [← hc]
      rfl
    have idx : ∀ j, i + (j + 1) = i + 1 + j := fun j => by omega
    cases hc : (decide (cmpD (atT l (i + 1)) x < 0) || decide ((0 : Int) < cmpD (atT l i) y)) with
    | true =>
      rw [step true hc, cond_true]
      have hno : ¬ meetsT l x y i := fun h => by unfold meetsT at h; rw [hc] at h; cases h
      have R := over_hull' (l := l) (x := x) (y := y) vs (i + 1) s all hok' ha (by
        rcases hs with hs | ⟨j, u, hu, hm⟩
        · exact .inl hs
        · cases j with
          | zero => exact absurd hm hno
          | succ j => exact .inr ⟨j, u, by simpa using hu, by rw [← idx]; exact hm⟩)
      refine ⟨R.ok, R.all, fun j u hu hm => ?_, fun L H h1 h2 => R.low L H h1 fun j u hu hm => h2 (j + 1) u (by simpa using hu) (by rw [idx]; exact hm)⟩
      cases j with
      | zero => exact absurd hm hno
      | succ j => exact R.each j u (by simpa using hu) (by rw [← idx]; exact hm)
    | false =>
      rw [step false hc, cond_false]
      cases s with
      | true =>
        rw [cond_true]
        obtain ⟨c, e, hcok, s1, s2, hlow⟩ := hull_ok (ha rfl) hv
        rw [e]
        have R := over_hull' (l := l) (x := x) (y := y) vs (i + 1) true c hok' (fun _ => hcok) (.inl rfl)
        have s3 := R.all rfl
        refine ⟨R.ok, fun _ => ⟨Int.le_trans s3.1 s1.1, Int.le_trans s1.2 s3.2⟩, fun j u hu hm => ?_, fun L H h1 h2 => ?_⟩
        · cases j with
          | zero =>
            simp only [List.getElem?_cons_zero, Option.some.injEq] at hu
            subst hu
            exact ⟨Int.le_trans s3.1 s2.1, Int.le_trans s2.2 s3.2⟩
          | succ j => exact R.each j u (by simpa using hu) (by rw [← idx]; exact hm)
        · obtain ⟨a1, a2⟩ := h1 rfl
          obtain ⟨b1, b2⟩ := h2 0 v rfl hc
          exact R.low L H (fun _ => hlow L H a1 a2 b1 b2) fun j u hu hm => h2 (j + 1) u (by simpa using hu) (by rw [idx]; exact hm)
      | false =>
        rw [cond_false]
        have R := over_hull' (l := l) (x := x) (y := y) vs (i + 1) true v hok' (fun _ => hv) (.inl rfl)
        have s3 := R.all rfl
        refine ⟨R.ok, fun h => (by cases h), fun j u hu hm => ?_, fun L H _ h2 => ?_⟩
        · cases j with
          | zero =>
            simp only [List.getElem?_cons_zero, Option.some.injEq] at hu
            subst hu
            exact s3
          | succ j => exact R.each j u (by simpa using hu) (by rw [← idx]; exact hm)
        · exact R.low L H (fun _ => h2 0 v rfl hc) fun j u hu hm => h2 (j + 1) u (by simpa using hu) (by rw [idx]; exact hm)
theorem meets_iff {t : Tb} {x y : Dy} (T : OkT t) (gx : GD x) (gy : GD y) {i : Nat} (hi : i < t.v.length) : meetsT t.at_ x y i ↔ ZD x ≤ ZT t (i + 1) ∧ ZT t i ≤ ZD y := by
  unfold meetsT
  have h1 := (T.gd (i + 1) hi).lt gx
  have h2 := (T.gd i (by omega)).gt gy
  have e1 : ZD (atT t.at_ (i + 1)) = ZT t (i + 1) := rfl
  have e2 : ZD (atT t.at_ i) = ZT t i := rfl
  rw [Bool.or_eq_false_iff]
  constructor
  · rintro ⟨a, b⟩
    have a := of_decide_eq_false a
    have b := of_decide_eq_false b
    omega
  · rintro ⟨a, b⟩
    exact ⟨decide_eq_false (by omega), decide_eq_false (by omega)⟩
/-- Over a span in the tube there is a hull. -/
structure Ovr (t : Tb) (x y : Dy) (c : Iv) : Prop where
  eq : overT t x y = (c, 0)
  ok : OkI c
  each : ∀ (i : Nat) v, t.v[i]? = some v → ZD x ≤ ZT t (i + 1) → ZT t i ≤ ZD y → Sub v c
  low : ∀ L H : Int, (∀ (i : Nat) v, t.v[i]? = some v → ZD x ≤ ZT t (i + 1) → ZT t i ≤ ZD y → L ≤ ZD v.lo ∧ ZD v.hi ≤ H) → L ≤ ZD c.lo ∧ ZD c.hi ≤ H
theorem holds_iff {t : Tb} {x : Dy} (T : OkT t) (gx : GD x) : holdsT t x = true ↔ ZT t 0 ≤ ZD x ∧ ZD x ≤ ZT t t.v.length := by
  unfold holdsT
  rw [Bool.and_eq_true]
  have h1 := T.gf.le gx
  have h2 := gx.le T.gl
  rw [firstT_Z] at h1
  rw [lastT_Z T] at h2
  constructor
  · rintro ⟨a, b⟩
    exact ⟨h1.1 (of_decide_eq_true a), h2.1 (of_decide_eq_true b)⟩
  · rintro ⟨a, b⟩
    exact ⟨decide_eq_true (h1.2 a), decide_eq_true (h2.2 b)⟩
/-- A cell that a time lies in. -/
theorem OkT.some {t : Tb} (T : OkT t) {z : Int} (h0 : ZT t 0 ≤ z) (h1 : z ≤ ZT t t.v.length) : ∃ k, k < t.v.length ∧ ZT t k ≤ z ∧ z ≤ ZT t (k + 1) := by
  by_cases h : z < ZT t t.v.length
  · obtain ⟨k, a, b, c⟩ := T.cell h0 (Nat.le_refl _) h
    exact ⟨k, a, b, by omega⟩
  · have := T.lt (i := 0) T.n (Nat.le_refl _)
    obtain ⟨k, a, b, c⟩ := T.cellR (z := z) (by omega) (Nat.le_refl _) h1
    exact ⟨k, a, by omega, c⟩
theorem over_is {t : Tb} {x y : Dy} (T : OkT t) (gx : GD x) (gy : GD y) (h1 : ZT t 0 ≤ ZD x) (h2 : ZD x ≤ ZD y) (h3 : ZD y ≤ ZT t t.v.length) : ∃ c, Ovr t x y c := by
  have hov : overT t x y = (overL t.at_ x y 0 false Iv.zero t.v, 0) := by
    unfold overT
    rw [T.may, gx.may, gy.may, decide_eq_false (fun h => by have := (gx.gt gy).1 h; omega), (holds_iff T gx).2 ⟨h1, by omega⟩, (holds_iff T gy).2 ⟨by omega, h3⟩]
    rfl
  obtain ⟨k, k1, k2, k3⟩ := T.some h1 (by omega)
  obtain ⟨v, hv⟩ := get_ex (l := t.v) k1 (Nat.le_refl _)
  have R := over_hull' (l := t.at_) (x := x) (y := y) t.v 0 false Iv.zero (fun j u hu => T.cells.ok hu) (fun h => by cases h) (.inr ⟨k, v, hv, by rw [Nat.zero_add]; exact (meets_iff T gx gy k1).2 ⟨k3, by omega⟩⟩)
  refine ⟨_, hov, R.ok, fun i u hu p q => R.each i u hu (by rw [Nat.zero_add]; exact (meets_iff T gx gy (get_lt hu)).2 ⟨p, q⟩), fun L H h => R.low L H (fun h => by cases h) fun j u hu hm => ?_⟩
  rw [Nat.zero_add] at hm
  obtain ⟨p, q⟩ := (meets_iff T gx gy (get_lt hu)).1 hm
  exact h j u hu p q
/-- Over all of it. -/
theorem over_all {a : Tb} (A : OkT a) : ∃ c, Ovr a (atT a.at_ 0) (atT a.at_ a.v.length) c := over_is A (A.gd 0 (Nat.zero_le _)) (A.gd _ (Nat.le_refl _)) (Int.le_refl _) (A.le (i := 0) (Nat.zero_le _) (Nat.le_refl _)) (Int.le_refl _)
/-- The tube of one cell that holds it. -/
theorem one_cell {x y : Dy} {c : Iv} (gx : GD x) (gy : GD y) (h : ZD x < ZD y) (C : OkI c) : mayT ⟨[x, y], [c]⟩ = true := by
  have s0 : stepT [x, y] 0 = true := by
    unfold stepT
    rw [show atT [x, y] 0 = x from rfl, gx.may]
    rfl
  have s1 : stepT [x, y] 1 = true := by
    unfold stepT
    rw [show atT [x, y] 1 = y from rfl, show atT [x, y] (1 - 1) = x from rfl, gy.may, decide_eq_true ((gx.lt gy).2 h)]
    simp
  have e : allT [x, y] 0 = (stepT [x, y] 0 && (stepT [x, y] 1 && true)) := rfl
  unfold mayT
  show (!(decide ((1 : Int) < 1)) && (!(decide ((256 : Int) < 1)) && (((2 : Int) == 2) && (allT [x, y] 0 && mayB [c])))) = true
  rw [e, s0, s1, show mayB [c] = true by unfold mayB; rw [List.all_cons, C.may]; rfl]
  rfl
theorem lim_one {x y : Dy} {c : Iv} (gx : GD x) (gy : GD y) (C : OkI c) : LimT ⟨[x, y], [c]⟩ := by
  refine ⟨fun d hd => ?_, fun v hv => ?_⟩
  · have hd : d ∈ [x, y] := hd
    simp only [List.mem_cons, List.not_mem_nil, or_false] at hd
    rcases hd with rfl | rfl
    · exact gx.lim
    · exact gy.lim
  · obtain rfl := List.mem_singleton.1 hv
    exact ⟨C.g.lo.lim, C.g.hi.lim⟩
/-- What TubeOrder asks of one tube. -/
structure Ord (a : Tb) (x z : Int) (h : Tb) : Prop where
  e0 : x = 0
  f0 : z = 0
  w1 : besideT withinI a a = true
  w2 : besideT withinI a h = true
  no : besideT insideI a a = false
theorem Ord.mk' {a : Tb} {p q : Dy} {l g : Dy} {x z : Int} {hp : List Dy} {hq : List Iv} (ma : mayT a = true) (la : LimT a) (h1 : a.at_[0]? = some p) (h2 : a.at_[a.v.length]? = some q) (ho : Hid ((⟨l, g⟩, x) = overT a p q)) (ht : Hid ((⟨hp, hq⟩, z) = makeT p q ⟨l, g⟩)) : Ord a x z ⟨hp, hq⟩ := by
  have A := OkT.of ma la
  obtain ⟨c, C⟩ := over_all A
  have ep : atT a.at_ 0 = p := atT_is h1
  have eq : atT a.at_ a.v.length = q := atT_is h2
  rw [ep, eq] at C
  have h3 := ho.out.trans C.eq
  injection h3 with h4 h5
  have gp : GD p := ep ▸ A.gd 0 (Nat.zero_le _)
  have gq : GD q := eq ▸ A.gd _ (Nat.le_refl _)
  have zp : ZD p = ZT a 0 := by rw [← ep]; rfl
  have zq : ZD q = ZT a a.v.length := by rw [← eq]; rfl
  have hlt : ZD p < ZD q := by rw [zp, zq]; exact A.lt A.n (Nat.le_refl _)
  have mh := one_cell gp gq hlt C.ok
  have h6 := ht.out
  unfold makeT at h6
  rw [h4, mh, cond_true] at h6
  injection h6 with h7 h8
  have H := OkT.of mh (lim_one gp gq C.ok)
  refine ⟨h5, h8, (beside_iff la la).2 (In2.self A), ?_, not_inside la⟩
  rw [h7]
  refine (beside_iff la (lim_one gp gq C.ok)).2 ⟨A, H, zp.symm, zq.symm, fun i k v w hv hw p2 q2 => ?_⟩
  have hk := get_lt hw
  have hk0 : k = 0 := by have : k < 1 := hk; omega
  subst hk0
  have hw' : ([c] : List Iv)[0]? = some w := hw
  cases hw'
  have li := get_lt hv
  exact (A.cells.ok hv).within C.ok (C.each i v hv (by rw [zp]; exact A.le (Nat.zero_le _) li) (by rw [zq]; exact A.le (by omega) (Nat.le_refl _)))
theorem rows_limD {ok : Nat → Prop} {w : World} {A : Option Addr} {n c : Nat} {l : List Dy} (h : Sx.Rows Sx.kD ok w A n c l) : ∀ d ∈ l, Lim BB d.m := by
  intro x hx
  obtain ⟨i, hi⟩ := List.mem_iff_getElem?.1 hx
  have hn : 0 < n := by have := (List.getElem?_eq_some_iff.1 hi).1; have := h.len; omega
  obtain ⟨_, _, _, _, _, h4⟩ := h.at_ hn
  obtain ⟨cs, ⟨_, _, _, _, r1⟩, _⟩ := h4 i x hi
  exact r1.lim
theorem rows_limI {ok : Nat → Prop} {w : World} {A : Option Addr} {n c : Nat} {l : List Iv} (h : Sx.Rows Sx.kI ok w A n c l) : ∀ x ∈ l, Lim BB x.lo.m ∧ Lim BB x.hi.m := by
  intro x hx
  obtain ⟨i, hi⟩ := List.mem_iff_getElem?.1 hx
  have hn : 0 < n := by have := (List.getElem?_eq_some_iff.1 hi).1; have := h.len; omega
  obtain ⟨_, _, _, _, _, h4⟩ := h.at_ hn
  obtain ⟨cs, ⟨_, _, _, _, _, _, _, r1, r2⟩, _⟩ := h4 i x hi
  exact ⟨r1.lim, r2.lim⟩
theorem limT {ok ok' : Nat → Prop} {w w' : World} {A B : Option Addr} {n c m d : Nat} {t : Tb} (h : Sx.Rows Sx.kD ok w A n c t.at_) (k : Sx.Rows Sx.kI ok' w' B m d t.v) : LimT t := ⟨rows_limD h, rows_limI k⟩
end Go.Proofs.YtbpfnooloemieaaGreatDoor
