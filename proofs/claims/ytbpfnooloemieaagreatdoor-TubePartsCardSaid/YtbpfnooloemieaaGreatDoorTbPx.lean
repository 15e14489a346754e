/- Tubes, plainly: which may be, what they are over spans, one in another, joined, halved, cut. -/
import Derived.Test.YtbpfnooloemieaaGreatDoorBxPx
import Derived.Test.YtbpfnooloemieaaGreatDoorIvBx
namespace Go.Proofs.YtbpfnooloemieaaGreatDoor
open Go.RowKit Pl

def atT (l : List Dy) (i : Nat) : Dy := (l[i]?).getD Dy.zero
theorem atT_is {l : List Dy} {i : Nat} {x : Dy} (h : l[i]? = some x) : atT l i = x := by unfold atT; rw [h]; rfl
/-- The i-th time may be, and is above the one before. -/
def stepT (l : List Dy) (i : Nat) : Bool := mayD (atT l i) && (decide ((i : Int) ≤ 0) || decide (cmpD (atT l (i - 1)) (atT l i) < 0))
def allT (l : List Dy) (i : Nat) : Bool := (List.range' i (l.length - i)).all (stepT l)
theorem allT_cons {l : List Dy} {i : Nat} (h : i < l.length) : allT l i = (stepT l i && allT l (i + 1)) := by
  unfold allT
  rw [show l.length - i = (l.length - (i + 1)) + 1 by omega, List.range'_succ]
  rfl
theorem allT_end {l : List Dy} {i : Nat} (h : decide ((i : Int) < (l.length : Int)) = false) : allT l i = true := by
  have := of_decide_eq_false h
  unfold allT
  rw [show l.length - i = 0 by omega]
  rfl
def mayT (t : Tb) : Bool := !(decide (((t.v.length : Nat) : Int) < 1)) && (!(decide ((256 : Int) < ((t.v.length : Nat) : Int))) && ((((t.at_.length : Nat) : Int) == ((t.v.length + 1 : Nat) : Int)) && (allT t.at_ 0 && mayB t.v)))
structure MayT (t : Tb) : Prop where
  pos : 0 < t.v.length
  few : t.v.length ≤ 256
  len : t.at_.length = t.v.length + 1
  inc : allT t.at_ 0 = true
  may : mayB t.v = true
theorem MayT.of {t : Tb} (h : mayT t = true) : MayT t := by
  unfold mayT at h
  simp only [Bool.and_eq_true] at h
  obtain ⟨h1, h2, h3, h4, h5⟩ := h
  have h1 : decide (((t.v.length : Nat) : Int) < 1) = false := by simpa using h1
  have h2 : decide ((256 : Int) < ((t.v.length : Nat) : Int)) = false := by simpa using h2
  have h1 := of_decide_eq_false h1
  have h2 := of_decide_eq_false h2
  have h3 := eq_of_beq h3
  exact ⟨by omega, by omega, by omega, h4, h5⟩
theorem may_c1 {t : Tb} (h : decide (((t.v.length : Nat) : Int) < 1) = true) : false = mayT t := by unfold mayT; rw [h]; rfl
theorem may_c2 {t : Tb} (h : decide ((256 : Int) < ((t.v.length : Nat) : Int)) = true) : false = mayT t := by unfold mayT; rw [h]; simp
theorem may_c3 {t : Tb} (h : (((t.at_.length : Nat) : Int) != ((t.v.length + 1 : Nat) : Int)) = true) : false = mayT t := by
  unfold mayT
  rw [show (((t.at_.length : Nat) : Int) == ((t.v.length + 1 : Nat) : Int)) = false by simpa using h]
  simp
theorem may_ok {t : Tb} (h1 : decide (((t.v.length : Nat) : Int) < 1) = false) (h2 : decide ((256 : Int) < ((t.v.length : Nat) : Int)) = false) (h3 : (((t.at_.length : Nat) : Int) != ((t.v.length + 1 : Nat) : Int)) = false) : mayT t = (allT t.at_ 0 && mayB t.v) := by
  unfold mayT
  rw [h1, h2, show (((t.at_.length : Nat) : Int) == ((t.v.length + 1 : Nat) : Int)) = true by simpa using h3]
  rfl
theorem step_no1 {l : List Dy} {i : Nat} {d : Dy} (hd : l[i]? = some d) (h : mayD d = false) : stepT l i = false := by unfold stepT; rw [atT_is hd, h]; rfl
theorem step_first {l : List Dy} {i : Nat} {d : Dy} (hd : l[i]? = some d) (h : mayD d = true) (h0 : decide ((0 : Int) < (i : Int)) = false) : stepT l i = true := by
  have := of_decide_eq_false h0
  unfold stepT
  rw [atT_is hd, h, decide_eq_true (by omega)]
  rfl
theorem step_next {l : List Dy} {i j : Nat} {d p : Dy} {b : Bool} (hd : l[i]? = some d) (hp : l[j]? = some p) (hj : j + 1 = i) (h : mayD d = true) (hb : decide ((0 : Int) ≤ cmpD p d) = b) : stepT l i = !b := by
  unfold stepT
  rw [atT_is hd, h, show i - 1 = j by omega, atT_is hp, decide_eq_false (by omega), ← hb, Bool.true_and, Bool.false_or]
  by_cases h0 : 0 ≤ cmpD p d
  · rw [decide_eq_true h0, decide_eq_false (by omega)]; rfl
  · rw [decide_eq_false h0, decide_eq_true (by omega)]; rfl
def firstT (t : Tb) : Dy := atT t.at_ 0
def lastT (t : Tb) : Dy := atT t.at_ (t.at_.length - 1)
def holdsT (t : Tb) (d : Dy) : Bool := decide (cmpD (firstT t) d ≤ 0) && decide (cmpD d (lastT t) ≤ 0)
/-- The hull of all from one time to another. -/
def overL (l : List Dy) (x y : Dy) : Nat → Bool → Iv → List Iv → Iv
  | _, _, all, [] => all
  | i, s, all, v :: r => bif decide (cmpD (atT l (i + 1)) x < 0) || decide ((0 : Int) < cmpD (atT l i) y) then overL l x y (i + 1) s all r else bif s then overL l x y (i + 1) true (hullI all v).1 r else overL l x y (i + 1) true v r
def overT (t : Tb) (x y : Dy) : Iv × Int :=
  bif mayT t && (mayD x && (mayD y && !(decide ((0 : Int) < cmpD x y)))) then (bif holdsT t x && holdsT t y then (overL t.at_ x y 0 false Iv.zero t.v, 0) else (Iv.zero, 5)) else (Iv.zero, 1)
theorem overL_cons {l : List Dy} {x y : Dy} {i : Nat} {s : Bool} {all v : Iv} {vs : List Iv} (h : vs[i]? = some v) : overL l x y i s all (vs.drop i) = bif decide (cmpD (atT l (i + 1)) x < 0) || decide ((0 : Int) < cmpD (atT l i) y) then overL l x y (i + 1) s all (vs.drop (i + 1)) else bif s then overL l x y (i + 1) true (hullI all v).1 (vs.drop (i + 1)) else overL l x y (i + 1) true v (vs.drop (i + 1)) := by rw [drop_cons h]; rfl
theorem over_skip {l : List Dy} {x y : Dy} {i : Nat} {s : Bool} {all v : Iv} {vs : List Iv} {r : Iv} (hm : r = overL l x y i s all (vs.drop i)) (h : vs[i]? = some v) (hc : (decide (cmpD (atT l (i + 1)) x < 0) || decide ((0 : Int) < cmpD (atT l i) y)) = true) : r = overL l x y (i + 1) s all (vs.drop (i + 1)) := by rw [hm, overL_cons h, hc]; rfl
theorem over_hull {l : List Dy} {x y : Dy} {i : Nat} {s : Bool} {all v z : Iv} {m : Int} {vs : List Iv} {r : Iv} (hm : r = overL l x y i s all (vs.drop i)) (h : vs[i]? = some v) (hc : (decide (cmpD (atT l (i + 1)) x < 0) || decide ((0 : Int) < cmpD (atT l i) y)) = false) (hs : s = true) (e : Hid ((z, m) = hullI all v)) : r = overL l x y (i + 1) true z (vs.drop (i + 1)) := by rw [hm, overL_cons h, hc, hs, ← e.out]; rfl
theorem over_new {l : List Dy} {x y : Dy} {i : Nat} {s : Bool} {all v : Iv} {vs : List Iv} {r : Iv} (hm : r = overL l x y i s all (vs.drop i)) (h : vs[i]? = some v) (hc : (decide (cmpD (atT l (i + 1)) x < 0) || decide ((0 : Int) < cmpD (atT l i) y)) = false) (hs : s = false) : r = overL l x y (i + 1) true v (vs.drop (i + 1)) := by rw [hm, overL_cons h, hc, hs]; rfl
def nilT : Tb := ⟨[], []⟩
def makeT (x y : Dy) (v : Iv) : Tb × Int := bif mayT ⟨[x, y], [v]⟩ then (⟨[x, y], [v]⟩, 0) else (nilT, 1)
def joinT (a b : Tb) : Tb × Int := bif mayT a && (mayT b && (!(cmpD (lastT a) (firstT b) != 0) && !(decide ((256 : Int) < ((a.v.length + b.v.length : Nat) : Int))))) then (⟨a.at_ ++ b.at_.drop 1, a.v ++ b.v⟩, 0) else (nilT, 1)
def sameT (a b : Tb) : Bool := ((((a.at_.length : Nat) : Int) == ((b.at_.length : Nat) : Int)) && all2 sameD a.at_ b.at_) && sameB a.v b.v
/-- Each cell as two. -/
def halvL (l : List Dy) : Nat → List Dy → List Iv → List Iv → Tb × Int
  | _, p, q, [] => (⟨p, q⟩, 0)
  | i, p, q, v :: r => bif (midI ⟨atT l i, atT l (i + 1)⟩).2 != 0 then (nilT, (midI ⟨atT l i, atT l (i + 1)⟩).2) else halvL l (i + 1) (p ++ [(midI ⟨atT l i, atT l (i + 1)⟩).1, atT l (i + 1)]) (q ++ [v, v]) r
def halveT (t : Tb) : Tb × Int := bif mayT t && !(decide ((256 : Int) < ((2 * t.v.length : Nat) : Int))) then halvL t.at_ 0 [atT t.at_ 0] [] t.v else (nilT, 1)
theorem halvL_cons {l : List Dy} {i : Nat} {p : List Dy} {q vs : List Iv} {v : Iv} (h : vs[i]? = some v) : halvL l i p q (vs.drop i) = bif (midI ⟨atT l i, atT l (i + 1)⟩).2 != 0 then (nilT, (midI ⟨atT l i, atT l (i + 1)⟩).2) else halvL l (i + 1) (p ++ [(midI ⟨atT l i, atT l (i + 1)⟩).1, atT l (i + 1)]) (q ++ [v, v]) (vs.drop (i + 1)) := by rw [drop_cons h]; rfl
theorem halve_bad {r : Tb × Int} {l : List Dy} {i : Nat} {p : List Dy} {q vs : List Iv} {v : Iv} {a b d : Dy} {x : Int} (hm : r = halvL l i p q (vs.drop i)) (h : vs[i]? = some v) (ha : l[i]? = some a) (hb : l[i + 1]? = some b) (e : Hid ((d, x) = midI ⟨a, b⟩)) (hz : ((x : Int) != 0) = true) : (nilT, x) = r := by rw [hm, halvL_cons h, atT_is ha, atT_is hb, ← e.out, hz]; rfl
theorem halve_step {r : Tb × Int} {l : List Dy} {i : Nat} {p : List Dy} {q vs : List Iv} {v : Iv} {a b d : Dy} {x : Int} (hm : r = halvL l i p q (vs.drop i)) (h : vs[i]? = some v) (ha : l[i]? = some a) (hb : l[i + 1]? = some b) (e : Hid ((d, x) = midI ⟨a, b⟩)) (hz : ((x : Int) != 0) = false) : r = halvL l (i + 1) (p ++ [d, b]) (q ++ [v, v]) (vs.drop (i + 1)) := by rw [hm, halvL_cons h, atT_is ha, atT_is hb, ← e.out, hz]; rfl
theorem halve_end {r : Tb × Int} {l : List Dy} {i : Nat} {p : List Dy} {q vs : List Iv} (hm : r = halvL l i p q (vs.drop i)) (hlt : decide ((i : Int) < (vs.length : Int)) = false) : (⟨p, q⟩, 0) = r := by rw [hm, drop_end hlt]; rfl
theorem halve_start {t : Tb} {a : Dy} (h1 : mayT t = true) (h2 : decide ((256 : Int) < ((2 * t.v.length : Nat) : Int)) = false) (ha : t.at_[0]? = some a) : halveT t = halvL t.at_ 0 [a] [] (t.v.drop 0) := by unfold halveT; rw [h1, h2, atT_is ha]; rfl
/-- A part of it. -/
def cutL (l : List Dy) (x y : Dy) : Nat → List Dy → List Iv → List Iv → Tb
  | _, p, q, [] => ⟨p, q⟩
  | i, p, q, v :: r => bif decide (cmpD (atT l (i + 1)) x ≤ 0) || decide ((0 : Int) ≤ cmpD (atT l i) y) then cutL l x y (i + 1) p q r else cutL l x y (i + 1) (p ++ [bif decide ((0 : Int) < cmpD (atT l (i + 1)) y) then y else atT l (i + 1)]) (q ++ [v]) r
def cutT (t : Tb) (x y : Dy) : Tb × Int :=
  bif mayT t && (mayD x && (mayD y && !(decide ((0 : Int) ≤ cmpD x y)))) then (bif holdsT t x && holdsT t y then (cutL t.at_ x y 0 [x] [] t.v, 0) else (nilT, 5)) else (nilT, 1)
theorem cutL_cons {l : List Dy} {x y : Dy} {i : Nat} {p : List Dy} {q vs : List Iv} {v : Iv} (h : vs[i]? = some v) : cutL l x y i p q (vs.drop i) = bif decide (cmpD (atT l (i + 1)) x ≤ 0) || decide ((0 : Int) ≤ cmpD (atT l i) y) then cutL l x y (i + 1) p q (vs.drop (i + 1)) else cutL l x y (i + 1) (p ++ [bif decide ((0 : Int) < cmpD (atT l (i + 1)) y) then y else atT l (i + 1)]) (q ++ [v]) (vs.drop (i + 1)) := by rw [drop_cons h]; rfl
/-- Few cells, of few numbers. -/
def fewD6 (d : Dy) : Bool := decide (d.m.length ≤ 6)
def fewT (t : Tb) : Bool := !(decide ((12 : Int) < ((t.v.length : Nat) : Int))) && (!(decide ((14 : Int) < ((t.at_.length : Nat) : Int))) && (t.at_.all fewD6 && t.v.all few6))
/-- Two tubes, cell by cell. -/
def walkT (f : Iv → Iv → Bool) (a b : Tb) : Nat → Nat → Nat → Bool
  | 0, _, _ => true
  | n + 1, i, k => match a.v[i]?, b.v[k]? with
    | some x, some y => f x y && (bif decide (cmpD (atT a.at_ (i + 1)) (atT b.at_ (k + 1)) < 0) then walkT f a b n (i + 1) k else bif cmpD (atT a.at_ (i + 1)) (atT b.at_ (k + 1)) == 0 then walkT f a b n (i + 1) (k + 1) else walkT f a b n i (k + 1))
    | _, _ => true
def besideT (f : Iv → Iv → Bool) (a b : Tb) : Bool := mayT a && (mayT b && (!(cmpD (firstT a) (firstT b) != 0) && (!(cmpD (lastT a) (lastT b) != 0) && walkT f a b (a.v.length + b.v.length + 1) 0 0)))
end Go.Proofs.YtbpfnooloemieaaGreatDoor
