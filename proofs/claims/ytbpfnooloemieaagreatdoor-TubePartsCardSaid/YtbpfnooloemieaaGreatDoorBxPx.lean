/- Boxes, plainly: what their rows are, their hulls and meets, widths, corners. The plain laws of boxes: rows, corners, hulls, meets. -/
import Derived.Test.YtbpfnooloemieaaGreatDoorSeqIx
import Derived.Test.YtbpfnooloemieaaGreatDoorIvBx
namespace Go.Proofs.YtbpfnooloemieaaGreatDoor
open Go.RowKit Pl

theorem drop_cons {α : Type} {l : List α} {i : Nat} {x : α} (h : l[i]? = some x) : l.drop i = x :: l.drop (i + 1) := by
  obtain ⟨hi, he⟩ := List.getElem?_eq_some_iff.1 h
  rw [List.drop_eq_getElem_cons hi, he]
theorem drop_end {α : Type} {l : List α} {i : Nat} (h : decide ((i : Int) < (l.length : Int)) = false) : l.drop i = [] := by
  have := of_decide_eq_false h
  exact List.drop_of_length_le (by omega)
def mayB (l : List Iv) : Bool := l.all mayI
def twoB (a b : List Iv) : Bool := ((a.length : Int) == (b.length : Int)) && (mayB a && mayB b)
theorem mayB_cons {l : List Iv} {i : Nat} {x : Iv} (h : l[i]? = some x) : mayB (l.drop i) = (mayI x && mayB (l.drop (i + 1))) := by rw [drop_cons h]; rfl
def all2 {α β : Type} (f : α → β → Bool) : List α → List β → Bool
  | x :: a, y :: b => f x y && all2 f a b
  | _, _ => true
theorem all2_cons {α β : Type} {f : α → β → Bool} {a : List α} {b : List β} {i : Nat} {x : α} {y : β} (h : a[i]? = some x) (k : b[i]? = some y) : all2 f (a.drop i) (b.drop i) = (f x y && all2 f (a.drop (i + 1)) (b.drop (i + 1))) := by rw [drop_cons h, drop_cons k]; rfl
theorem all2_nil {α β : Type} {f : α → β → Bool} {b : List β} : all2 f ([] : List α) b = true := by cases b <;> rfl
theorem all2_get {α β : Type} {f : α → β → Bool} : ∀ {a : List α} {b : List β}, all2 f a b = true → ∀ (i : Nat) x y, a[i]? = some x → b[i]? = some y → f x y = true
  | x :: a, y :: b, h, 0, u, v, hu, hv => by
    simp only [List.getElem?_cons_zero, Option.some.injEq] at hu hv
    subst hu hv
    simp only [all2, Bool.and_eq_true] at h
    exact h.1
  | x :: a, y :: b, h, i + 1, u, v, hu, hv => by
    simp only [all2, Bool.and_eq_true] at h
    exact all2_get h.2 i u v (by simpa using hu) (by simpa using hv)
  | [], _, _, _, _, _, hu, _ => by simp at hu
  | _ :: _, [], _, _, _, _, _, hv => by simp at hv
theorem all2_of {α β : Type} {f : α → β → Bool} : ∀ {a : List α} {b : List β}, (∀ (i : Nat) x y, a[i]? = some x → b[i]? = some y → f x y = true) → all2 f a b = true
  | x :: a, y :: b, h => by
    simp only [all2, Bool.and_eq_true]
    exact ⟨h 0 x y rfl rfl, all2_of fun i u v hu hv => h (i + 1) u v (by simpa using hu) (by simpa using hv)⟩
  | [], _, _ => all2_nil
  | _ :: _, [], _ => rfl
def withinB (a b : List Iv) : Bool := twoB a b && all2 withinI a b
def hasB (b : List Iv) (x : List Dy) : Bool := mayB b && (((b.length : Int) == (x.length : Int)) && all2 hasI b x)
def sameB (a b : List Iv) : Bool := ((a.length : Int) == (b.length : Int)) && all2 sameI a b
theorem twoB_len {a b : List Iv} (h : twoB a b = true) : a.length = b.length := by
  unfold twoB at h
  have := (Bool.and_eq_true _ _ ▸ h).1
  have := eq_of_beq this
  omega
/-- Something of each two. -/
def eachA (f : Iv → Iv → Iv × Int) : List Iv → List Iv → List Iv → List Iv × Int
  | acc, x :: a, y :: b => bif (f x y).2 != 0 then ([], (f x y).2) else eachA f (acc ++ [(f x y).1]) a b
  | acc, _, _ => (acc, 0)
def eachB (f : Iv → Iv → Iv × Int) (a b : List Iv) : List Iv × Int := bif twoB a b then eachA f [] a b else ([], 1)
theorem eachA_nil {f : Iv → Iv → Iv × Int} {acc b : List Iv} : eachA f acc [] b = (acc, 0) := by cases b <;> rfl
/-- How wide at most. -/
def widthA : Dy → List Iv → Dy × Int
  | m, [] => (m, 0)
  | m, a :: l => bif (widthI a).2 != 0 then (Dy.zero, (widthI a).2) else widthA (bif decide (0 < cmpD (widthI a).1 m) then (widthI a).1 else m) l
def widthB (l : List Iv) : Dy × Int := bif mayB l then widthA Dy.zero l else (Dy.zero, 1)
theorem widthA_cons {m : Dy} {l : List Iv} {i : Nat} {x : Iv} (h : l[i]? = some x) : widthA m (l.drop i) = bif (widthI x).2 != 0 then (Dy.zero, (widthI x).2) else widthA (bif decide (0 < cmpD (widthI x).1 m) then (widthI x).1 else m) (l.drop (i + 1)) := by rw [drop_cons h]; rfl
/-- Ends by bits. -/
def cornA (hib : Nat → Bool) (i : Nat) (acc : List Dy) : List Iv → List Dy
  | [] => acc
  | a :: l => cornA hib (i + 1) (acc ++ [bif hib i then a.hi else a.lo]) l
/-- Bit i of a number, as it is asked. -/
def hibV (k : Int) (i : Nat) : Int := match Sx.intBin .and .i64 (k.fdiv (2 ^ i)) 1 with | some (.int _ x) => x | _ => 0
def hib (k : Int) (i : Nat) : Bool := decide ((i : Int) < (62 : Int)) && (hibV k i == 1)
def cornB (k : Int) (l : List Iv) : List Dy := bif mayB l then cornA (hib k) 0 [] l else []
theorem width_no {l : List Iv} (h : mayB l = false) : (Dy.zero, (1 : Int)) = widthB l := by unfold widthB; rw [h]; rfl
theorem width_yes {l : List Iv} (h : mayB l = true) : widthB l = widthA Dy.zero l := by unfold widthB; rw [h]; rfl
theorem width_bad {l : List Iv} {m d : Dy} {x : Int} {i : Nat} {a : Iv} (hm : widthB l = widthA m (l.drop i)) (hx : l[i]? = some a) (e : Hid ((d, x) = widthI a)) (hz : ((x : Int) != 0) = true) : (Dy.zero, x) = widthB l := by rw [hm, widthA_cons hx, ← e.out, hz]; rfl
theorem width_step {l : List Iv} {m d : Dy} {x : Int} {i : Nat} {a : Iv} {b : Bool} (hm : widthB l = widthA m (l.drop i)) (hx : l[i]? = some a) (e : Hid ((d, x) = widthI a)) (hz : ((x : Int) != 0) = false) (hb : decide ((0 : Int) < cmpD d m) = b) : widthB l = widthA (bif b then d else m) (l.drop (i + 1)) := by rw [hm, widthA_cons hx, ← e.out, hz, hb]; rfl
theorem width_end {l : List Iv} {m : Dy} {i : Nat} (hm : widthB l = widthA m (l.drop i)) (hlt : decide ((i : Int) < (l.length : Int)) = false) : (m, (0 : Int)) = widthB l := by rw [hm, drop_end hlt]; rfl
/-- Few intervals, of few numbers. -/
def few6 (a : Iv) : Bool := decide (a.lo.m.length ≤ 6) && decide (a.hi.m.length ≤ 6)
def fewB (l : List Iv) : Bool := decide (l.length ≤ 8) && l.all few6
theorem few6_cons {l : List Iv} {i : Nat} {x : Iv} (h : l[i]? = some x) : (l.drop i).all few6 = (few6 x && (l.drop (i + 1)).all few6) := by rw [drop_cons h]; rfl
theorem few_long {l : List Iv} (h : decide ((8 : Int) < ((l.length : Nat) : Int)) = true) : false = fewB l := by
  have := of_decide_eq_true h
  unfold fewB
  rw [decide_eq_false (by omega)]; rfl
theorem few_one {l : List Iv} (h : decide ((8 : Int) < ((l.length : Nat) : Int)) = false) : fewB l = l.all few6 := by
  have := of_decide_eq_false h
  unfold fewB
  rw [decide_eq_true (by omega)]; rfl
theorem few_no {l : List Iv} {i : Nat} {x : Iv} (hm : fewB l = (l.drop i).all few6) (hx : l[i]? = some x) (h : decide ((6 : Int) < ((x.lo.m.length : Nat) : Int)) = true ∨ decide ((6 : Int) < ((x.hi.m.length : Nat) : Int)) = true) : false = fewB l := by
  rw [hm, few6_cons hx]
  have : few6 x = false := by
    unfold few6
    rcases h with h | h
    · have := of_decide_eq_true h; rw [decide_eq_false (by omega)]; rfl
    · have := of_decide_eq_true h; rw [decide_eq_false (p := x.hi.m.length ≤ 6) (by omega), Bool.and_false]
  rw [this]; rfl
theorem few_step {l : List Iv} {i : Nat} {x : Iv} (hm : fewB l = (l.drop i).all few6) (hx : l[i]? = some x) (h1 : decide ((6 : Int) < ((x.lo.m.length : Nat) : Int)) = false) (h2 : decide ((6 : Int) < ((x.hi.m.length : Nat) : Int)) = false) : fewB l = (l.drop (i + 1)).all few6 := by
  have h1 := of_decide_eq_false h1
  have h2 := of_decide_eq_false h2
  rw [hm, few6_cons hx]
  unfold few6
  rw [decide_eq_true (by omega), decide_eq_true (by omega)]; rfl
theorem few_end {l : List Iv} {i : Nat} (hm : fewB l = (l.drop i).all few6) (hlt : decide ((i : Int) < (l.length : Int)) = false) : true = fewB l := by rw [hm, drop_end hlt]; rfl
end Go.Proofs.YtbpfnooloemieaaGreatDoor
namespace Go.Proofs.YtbpfnooloemieaaGreatDoor
open Go.RowKit Pl

/-- The mark of a row of answers. -/
theorem each_mark {f : Iv → Iv → Iv × Int} : ∀ {acc a b : List Iv}, ((eachA f acc a b).2 == 0) = all2 (fun x y => (f x y).2 == 0) a b
  | acc, x :: a, y :: b => by
    show ((bif (f x y).2 != 0 then (([] : List Iv), (f x y).2) else eachA f (acc ++ [(f x y).1]) a b).2 == 0) = ((f x y).2 == 0 && all2 (fun x y => (f x y).2 == 0) a b)
    cases h : ((f x y).2 != 0) with
    | true => 
      rw [cond_true]
      have : ((f x y).2 == 0) = false := by simpa using h
      show ((f x y).2 == 0) = _
      rw [this, Bool.false_and]
    | false =>
      rw [cond_false]
      have : ((f x y).2 == 0) = true := by simpa using h
      rw [this, Bool.true_and]
      exact each_mark
  | acc, [], b => by rw [eachA_nil, all2_nil]; rfl
  | acc, _ :: _, [] => rfl
/-- The answers themselves. -/
theorem each_all {f : Iv → Iv → Iv × Int} : ∀ {acc a b : List Iv}, (∀ (i : Nat) x y, a[i]? = some x → b[i]? = some y → (f x y).2 = 0) → eachA f acc a b = (acc ++ List.zipWith (fun x y => (f x y).1) a b, 0)
  | acc, x :: a, y :: b, h => by
    show (bif (f x y).2 != 0 then (([] : List Iv), (f x y).2) else eachA f (acc ++ [(f x y).1]) a b) = _
    rw [h 0 x y rfl rfl]
    show eachA f (acc ++ [(f x y).1]) a b = _
    rw [each_all fun i u v hu hv => h (i + 1) u v (by simpa using hu) (by simpa using hv)]
    simp
  | acc, [], b, _ => by rw [eachA_nil]; simp
  | acc, _ :: _, [], _ => by simp [eachA]
/-- A box of intervals that may be. -/
def OkB (a : List Iv) : Prop := ∀ (i : Nat) (x : Iv), a[i]? = some x → mayI x = true ∧ GI x ∧ ZD x.lo ≤ ZD x.hi
theorem OkB.mk' {a : List Iv} (h : mayB a = true) (hl : ∀ x ∈ a, Lim BB x.lo.m ∧ Lim BB x.hi.m) : OkB a := by
  intro i x hx
  have hm := List.mem_of_getElem? hx
  have h1 := List.all_eq_true.1 h x hm
  obtain ⟨m1, m2, _⟩ := mayI_parts h1
  have g : GI x := ⟨⟨m1, (hl x hm).1⟩, ⟨m2, (hl x hm).2⟩⟩
  exact ⟨h1, g, g.may.1 h1⟩
theorem OkB.may {a : List Iv} (h : OkB a) : mayB a = true := by
  unfold mayB
  rw [List.all_eq_true]
  intro x hx
  obtain ⟨i, hi⟩ := List.mem_iff_getElem?.1 hx
  exact (h i x hi).1
theorem withinB_of {a b : List Iv} (ha : OkB a) (hb : OkB b) (hl : a.length = b.length) (h : ∀ (i : Nat) x y, a[i]? = some x → b[i]? = some y → ZD y.lo ≤ ZD x.lo ∧ ZD x.hi ≤ ZD y.hi) : withinB a b = true := by
  unfold withinB twoB
  rw [ha.may, hb.may, hl]
  have : all2 withinI a b = true := all2_of fun i x y hx hy => ((ha i x hx).2.1.within (hb i y hy).2.1).2 ⟨(ha i x hx).2.2, (hb i y hy).2.2, h i x y hx hy⟩
  rw [this]
  simp
/-- A row of ends. -/
def Ends (a : List Iv) (c : List Dy) : Prop := c.length = a.length ∧ ∀ (i : Nat) x d, a[i]? = some x → c[i]? = some d → d = x.lo ∨ d = x.hi
theorem ends_of {hib : Nat → Bool} : ∀ {l : List Iv} {i : Nat} {acc : List Dy}, ∃ r, cornA hib i acc l = acc ++ r ∧ Ends l r
  | [], i, acc => ⟨[], by simp [cornA], rfl, fun i x d hx => by simp at hx⟩
  | a :: l, i, acc => by
    obtain ⟨r, h1, h2, h3⟩ := ends_of (hib := hib) (l := l) (i := i + 1) (acc := acc ++ [bif hib i then a.hi else a.lo])
    refine ⟨(bif hib i then a.hi else a.lo) :: r, ?_, by simp [h2], fun j x d hx hd => ?_⟩
    · show cornA hib (i + 1) (acc ++ [bif hib i then a.hi else a.lo]) l = _
      rw [h1]
      simp
    · match j, hx, hd with
      | 0, hx, hd =>
        simp only [List.getElem?_cons_zero, Option.some.injEq] at hx hd
        subst hx hd
        cases hib i
        · exact .inl rfl
        · exact .inr rfl
      | j + 1, hx, hd => exact h3 j x d (by simpa using hx) (by simpa using hd)
theorem corn_ends {k : Int} {a : List Iv} {c : List Dy} (ha : OkB a) (e : Hid (c = cornB k a)) : Ends a c := by
  have h := e.out
  unfold cornB at h
  rw [ha.may, cond_true] at h
  obtain ⟨r, h1, h2⟩ := ends_of (hib := hib k) (l := a) (i := 0) (acc := [])
  rw [h1, List.nil_append] at h
  rw [h]
  exact h2
theorem Ends.good {a : List Iv} {c : List Dy} (h : Ends a c) (ha : OkB a) {i : Nat} {x : Iv} {d : Dy} (hx : a[i]? = some x) (hd : c[i]? = some d) : GD d ∧ ZD x.lo ≤ ZD d ∧ ZD d ≤ ZD x.hi := by
  obtain ⟨_, g, hle⟩ := ha i x hx
  rcases h.2 i x d hx hd with rfl | rfl
  · exact ⟨g.lo, Int.le_refl _, hle⟩
  · exact ⟨g.hi, hle, Int.le_refl _⟩
theorem hasB_of {b : List Iv} {x : List Dy} (hb : OkB b) (hl : b.length = x.length) (h : ∀ (i : Nat) y d, b[i]? = some y → x[i]? = some d → GD d ∧ ZD y.lo ≤ ZD d ∧ ZD d ≤ ZD y.hi) : hasB b x = true := by
  unfold hasB
  have : all2 hasI b x = true := all2_of fun i y d hy hd => ((hb i y hy).2.1.has (h i y d hy hd).1).2 ⟨(hb i y hy).2.2, (h i y d hy hd).2⟩
  rw [hb.may, this, hl]
  simp
theorem zip_get {a b : List Iv} {f : Iv → Iv → Iv} {i : Nat} {z : Iv} (h : (List.zipWith f a b)[i]? = some z) : ∃ x y, a[i]? = some x ∧ b[i]? = some y ∧ f x y = z := by
  rw [List.getElem?_zipWith] at h
  split at h
  · rename_i x y hx hy
    exact ⟨x, y, hx, hy, by injection h⟩
  · cases h
/-- What is known of two boxes, of corners, of their hull and meet. -/
structure Bxs (a b : List Iv) (c d : List Dy) (h : List Iv) (e : Int) : Prop where
  e0 : e = 0
  len : (((c.length : Nat) : Int) != ((a.length : Nat) : Int)) = false
  h1 : hasB a c = true
  h2 : hasB h c = true
  h3 : hasB h d = true
  w1 : withinB a h = true
  w2 : withinB b h = true
theorem hull_get {a b h : List Iv} {e : Int} (hT : twoB a b = true) (ha : OkB a) (hb : OkB b) (k : Hid ((h, e) = eachB hullI a b)) : e = 0 ∧ h.length = a.length ∧ OkB h ∧ ∀ (i : Nat) x y z, a[i]? = some x → b[i]? = some y → h[i]? = some z → ZD z.lo ≤ ZD x.lo ∧ ZD x.hi ≤ ZD z.hi ∧ ZD z.lo ≤ ZD y.lo ∧ ZD y.hi ≤ ZD z.hi := by
  have h1 := k.out
  unfold eachB at h1
  rw [hT, cond_true, each_all fun i x y hx hy => by rw [show hullI x y = (⟨leastD x.lo y.lo, greatestD x.hi y.hi⟩, 0) by unfold hullI; rw [(ha i x hx).1, (hb i y hy).1]; rfl]] at h1
  obtain ⟨h2, h3⟩ := Prod.mk.inj h1
  have hl := twoB_len hT
  rw [List.nil_append] at h2
  have key : ∀ (i : Nat) z, h[i]? = some z → ∃ x y, a[i]? = some x ∧ b[i]? = some y ∧ z = ⟨leastD x.lo y.lo, greatestD x.hi y.hi⟩ := by
    intro i z hz
    rw [h2] at hz
    obtain ⟨x, y, hx, hy, rfl⟩ := zip_get hz
    refine ⟨x, y, hx, hy, ?_⟩
    unfold hullI
    rw [(ha i x hx).1, (hb i y hy).1]
    rfl
  refine ⟨h3, by rw [h2, List.length_zipWith]; omega, fun i z hz => ?_, fun i x y z hx hy hz => ?_⟩
  · obtain ⟨x, y, hx, hy, rfl⟩ := key i z hz
    obtain ⟨_, gx, lx⟩ := ha i x hx
    obtain ⟨_, gy, ly⟩ := hb i y hy
    obtain ⟨k1, _, k3, k4⟩ := gx.lo.least gy.lo
    obtain ⟨k5, _, k7, k8⟩ := gx.hi.greatest gy.hi
    have g : GI ⟨leastD x.lo y.lo, greatestD x.hi y.hi⟩ := ⟨k1, k5⟩
    have hle : ZD (leastD x.lo y.lo) ≤ ZD (greatestD x.hi y.hi) := by omega
    exact ⟨g.may.2 hle, g, hle⟩
  · obtain ⟨x', y', hx', hy', rfl⟩ := key i z hz
    rw [hx] at hx'
    rw [hy] at hy'
    cases hx'
    cases hy'
    obtain ⟨_, gx, lx⟩ := ha i x hx
    obtain ⟨_, gy, ly⟩ := hb i y hy
    obtain ⟨k1, _, k3, k4⟩ := gx.lo.least gy.lo
    obtain ⟨k5, _, k7, k8⟩ := gx.hi.greatest gy.hi
    exact ⟨k3, k7, k4, k8⟩
theorem get_ex {α : Type} {l : List α} {n i : Nat} (h : i < n) (hl : n ≤ l.length) : ∃ x, l[i]? = some x := ⟨_, List.getElem?_eq_getElem (by omega)⟩
theorem get_lt {α : Type} {l : List α} {i : Nat} {x : α} (h : l[i]? = some x) : i < l.length := (List.getElem?_eq_some_iff.1 h).1
theorem Bxs.mk' {a b h : List Iv} {c d : List Dy} {e i k : Int} (hT : twoB a b = true) (ha : OkB a) (hb : OkB b) (kc : Hid (c = cornB i a)) (kd : Hid (d = cornB k b)) (kh : Hid ((h, e) = eachB hullI a b)) : Bxs a b c d h e := by
  obtain ⟨h0, hl, hh, key⟩ := hull_get hT ha hb kh
  have ec := corn_ends ha kc
  have ed := corn_ends hb kd
  have hab := twoB_len hT
  refine ⟨h0, by rw [ec.1]; simp, hasB_of ha ec.1.symm fun i y d hy hd => ec.good ha hy hd, hasB_of hh (by rw [hl, ec.1]) fun i z d hz hd => ?_, hasB_of hh (by rw [hl, ed.1, hab]) fun i z d hz hd => ?_, withinB_of ha hh hl.symm fun i x z hx hz => ?_, withinB_of hb hh (by omega) fun i y z hy hz => ?_⟩
  · have hi := get_lt hz
    obtain ⟨x, hx⟩ := get_ex (l := a) hi (by omega)
    obtain ⟨y, hy⟩ := get_ex (l := b) hi (by omega)
    obtain ⟨q1, q2, q3⟩ := ec.good ha hx hd
    obtain ⟨k1, k2, k3, k4⟩ := key i x y z hx hy hz
    exact ⟨q1, by omega, by omega⟩
  · have hi := get_lt hz
    obtain ⟨x, hx⟩ := get_ex (l := a) hi (by omega)
    obtain ⟨y, hy⟩ := get_ex (l := b) hi (by omega)
    obtain ⟨q1, q2, q3⟩ := ed.good hb hy hd
    obtain ⟨k1, k2, k3, k4⟩ := key i x y z hx hy hz
    exact ⟨q1, by omega, by omega⟩
  · obtain ⟨y, hy⟩ := get_ex (l := b) (get_lt hx) (by omega)
    obtain ⟨k1, k2, k3, k4⟩ := key i x y z hx hy hz
    exact ⟨k1, k2⟩
  · obtain ⟨x, hx⟩ := get_ex (l := a) (get_lt hy) (by omega)
    obtain ⟨k1, k2, k3, k4⟩ := key i x y z hx hy hz
    exact ⟨k3, k4⟩
theorem meet_cases {x y : Iv} (hx : mayI x = true) (hy : mayI y = true) : (mayI ⟨greatestD x.lo y.lo, leastD x.hi y.hi⟩ = true ∧ meetI x y = (⟨greatestD x.lo y.lo, leastD x.hi y.hi⟩, 0)) ∨ (mayI ⟨greatestD x.lo y.lo, leastD x.hi y.hi⟩ = false ∧ meetI x y = (Iv.zero, 5)) := by
  unfold meetI
  rw [hx, hy]
  cases h : mayI ⟨greatestD x.lo y.lo, leastD x.hi y.hi⟩ with
  | true => exact .inl ⟨rfl, rfl⟩
  | false => exact .inr ⟨rfl, rfl⟩
theorem meet_out {a b m : List Iv} {f : Int} (hT : twoB a b = true) (k : Hid ((m, f) = eachB meetI a b)) : (m, f) = eachA meetI [] a b := by
  have h := k.out
  unfold eachB at h
  rw [hT, cond_true] at h
  exact h
structure Mts (a b m : List Iv) (c : List Dy) : Prop where
  w1 : withinB m a = true
  w2 : withinB m b = true
  eq : (hasB m c == hasB b c) = true
theorem all2_congr {α β γ : Type} {f : α → β → Bool} {g : γ → β → Bool} : ∀ {a : List α} {a' : List γ} {b : List β}, a.length = a'.length → (∀ (i : Nat) x x' y, a[i]? = some x → a'[i]? = some x' → b[i]? = some y → f x y = g x' y) → all2 f a b = all2 g a' b
  | x :: a, x' :: a', y :: b, hl, h => by
    show (f x y && all2 f a b) = (g x' y && all2 g a' b)
    rw [h 0 x x' y rfl rfl rfl, all2_congr (by simpa using hl) fun i u u' v hu hu' hv => h (i + 1) u u' v (by simpa using hu) (by simpa using hu') (by simpa using hv)]
  | [], [], b, _, _ => by rw [all2_nil, all2_nil]
  | [], _ :: _, _, hl, _ => by simp at hl
  | _ :: _, [], _, hl, _ => by simp at hl
  | _ :: _, _ :: _, [], _, _ => rfl
theorem Mts.mk' {a b m : List Iv} {c : List Dy} {f i : Int} (hT : twoB a b = true) (ha : OkB a) (hb : OkB b) (kc : Hid (c = cornB i a)) (km : Hid ((m, f) = eachB meetI a b)) (hf : ((f : Int) != 0) = false) : Mts a b m c := by
  have h := meet_out hT km
  have hab := twoB_len hT
  have e1 : f = (eachA meetI [] a b).2 := by rw [← h]
  have h0 : f = 0 := by simpa using hf
  have h2 : all2 (fun x y => (meetI x y).2 == 0) a b = true := by
    rw [← each_mark (acc := []), ← e1, h0]
    rfl
  have hz : ∀ (i : Nat) x y, a[i]? = some x → b[i]? = some y → (meetI x y).2 = 0 := fun i x y hx hy => by
    have := all2_get h2 i x y hx hy
    simpa using this
  rw [each_all hz, List.nil_append] at h
  obtain ⟨h3, _⟩ := Prod.mk.inj h
  have hl : m.length = a.length := by rw [h3, List.length_zipWith]; omega
  have key : ∀ (i : Nat) x y z, a[i]? = some x → b[i]? = some y → m[i]? = some z → GI z ∧ ZD z.lo ≤ ZD z.hi ∧ ZD x.lo ≤ ZD z.lo ∧ ZD y.lo ≤ ZD z.lo ∧ ZD z.hi ≤ ZD x.hi ∧ ZD z.hi ≤ ZD y.hi ∧ (ZD z.lo = ZD x.lo ∨ ZD z.lo = ZD y.lo) ∧ (ZD z.hi = ZD x.hi ∨ ZD z.hi = ZD y.hi) := by
    intro i x y z hx hy hm
    rw [h3] at hm
    obtain ⟨x', y', hx', hy', hz'⟩ := zip_get hm
    rw [hx] at hx'
    rw [hy] at hy'
    cases hx'
    cases hy'
    have h0 := hz i x y hx hy
    rcases meet_cases (ha i x hx).1 (hb i y hy).1 with ⟨h4, h5⟩ | ⟨h4, h5⟩
    · rw [h5] at hz'
      subst hz'
      obtain ⟨_, gx, lx⟩ := ha i x hx
      obtain ⟨_, gy, ly⟩ := hb i y hy
      obtain ⟨k1, k2, k3, k4⟩ := gx.lo.greatest gy.lo
      obtain ⟨k5, k6, k7, k8⟩ := gx.hi.least gy.hi
      have g : GI ⟨greatestD x.lo y.lo, leastD x.hi y.hi⟩ := ⟨k1, k5⟩
      exact ⟨g, g.may.1 h4, k3, k4, k7, k8, k2, k6⟩
    · rw [h5] at h0; cases h0
  have hm : OkB m := fun i z hm => by
    have hi := get_lt hm
    obtain ⟨x, hx⟩ := get_ex (l := a) hi (by omega)
    obtain ⟨y, hy⟩ := get_ex (l := b) hi (by omega)
    obtain ⟨g, hle, _⟩ := key i x y z hx hy hm
    exact ⟨g.may.2 hle, g, hle⟩
  have ec := corn_ends ha kc
  refine ⟨withinB_of hm ha hl fun i z x hz' hx => ?_, withinB_of hm hb (by omega) fun i z y hz' hy => ?_, ?_⟩
  · obtain ⟨y, hy⟩ := get_ex (l := b) (get_lt hx) (by omega)
    obtain ⟨_, _, k1, _, k2, _⟩ := key i x y z hx hy hz'
    exact ⟨k1, k2⟩
  · obtain ⟨x, hx⟩ := get_ex (l := a) (get_lt hy) (by omega)
    obtain ⟨_, _, _, k1, _, k2, _⟩ := key i x y z hx hy hz'
    exact ⟨k1, k2⟩
  · unfold hasB
    rw [hm.may, hb.may, hl, ← hab]
    have : all2 hasI m c = all2 hasI b c := all2_congr (by omega) fun i z y d hz' hy hd => by
      obtain ⟨x, hx⟩ := get_ex (l := a) (get_lt hy) (by omega)
      obtain ⟨g, hle, k1, k2, k3, k4, k5, k6⟩ := key i x y z hx hy hz'
      obtain ⟨gd, q1, q2⟩ := ec.good ha hx hd
      have e1 := g.has gd
      have e2 := (hb i y hy).2.1.has gd
      have ly := (hb i y hy).2.2
      cases h7 : hasI y d with
      | true =>
        obtain ⟨p1, p2, p3⟩ := e2.1 h7
        exact e1.2 ⟨hle, by omega, by omega⟩
      | false =>
        cases h8 : hasI z d with
        | false => rfl
        | true =>
          obtain ⟨p1, p2, p3⟩ := e1.1 h8
          have := e2.2 ⟨ly, by omega, by omega⟩
          rw [this] at h7
          cases h7
    rw [this]
    simp
end Go.Proofs.YtbpfnooloemieaaGreatDoor
