/- Boxes, plainly: what their rows are, their hulls and meets, widths, corners. The plain laws of boxes: rows, corners, hulls, meets. -/
import Derived.Test.YtbpfnooloemieaaGreatDoorSeqIx
import Derived.Test.YtbpfnooloemieaaGreatDoorIvBx
namespace Go.Proofs.YtbpfnooloemieaaGreatDoor
open Go.RowKit Pl

theorem drop_cons {α : Type} {l : List α} {i : Nat} {x : α} (h : l[i]? = some x) : l.drop i = x :: l.drop (i + 1) := by
  obtain ⟨hi, he⟩ := List.getElem?_eq_some_iff.1 h
  rw [List.drop_eq_getElem_cons hi, he]
theorem drop_end {α : Type} {l : List α} {i : Nat} (h : decide ((i : Int) < (l.length : Int)) = false) : l.drop i = [] := by
  have := of_decide_eq_false h
  exact List.drop_of_length_le (by omega)
def mayB (l : List Iv) : Bool := l.all mayI
def twoB (a b : List Iv) : Bool := ((a.length : Int) == (b.length : Int)) && (mayB a && mayB b)
theorem mayB_cons {l : List Iv} {i : Nat} {x : Iv} (h : l[i]? = some x) : mayB (l.drop i) = (mayI x && mayB (l.drop (i + 1))) := by rw [drop_cons h]; rfl
def all2 {α β : Type} (f : α → β → Bool) : List α → List β → Bool
  | x :: a, y :: b => f x y && all2 f a b
  | _, _ => true
theorem all2_cons {α β : Type} {f : α → β → Bool} {a : List α} {b : List β} {i : Nat} {x : α} {y : β} (h : a[i]? = some x) (k : b[i]? = some y) : all2 f (a.drop i) (b.drop i) = (f x y && all2 f (a.drop (i + 1)) (b.drop (i + 1))) := by rw [drop_cons h, drop_cons k]; rfl
theorem all2_nil {α β : Type} {f : α → β → Bool} {b : List β} : all2 f ([] : List α) b = true := by cases b <;> rfl
theorem all2_of {α β : Type} {f : α → β → Bool} : ∀ {a : List α} {b : List β}, (∀ (i : Nat) x y, a[i]? = some x → b[i]? = some y → f x y = true) → all2 f a b = true
  | x :: a, y :: b, h => by
    simp only [all2, Bool.and_eq_true]
    exact ⟨h 0 x y rfl rfl, all2_of fun i u v hu hv => h (i + 1) u v (by simpa using hu) (by simpa using hv)⟩
  | [], _, _ => all2_nil
  | _ :: _, [], _ => rfl
def withinB (a b : List Iv) : Bool := twoB a b && all2 withinI a b
def insideB (a b : List Iv) : Bool := twoB a b && all2 insideI a b
def hasB (b : List Iv) (x : List Dy) : Bool := mayB b && (((b.length : Int) == (x.length : Int)) && all2 hasI b x)
def sameB (a b : List Iv) : Bool := ((a.length : Int) == (b.length : Int)) && all2 sameI a b
theorem twoB_len {a b : List Iv} (h : twoB a b = true) : a.length = b.length := by
  unfold twoB at h
  have := (Bool.and_eq_true _ _ ▸ h).1
  have := eq_of_beq this
  omega
/-- Something of each two. -/
def eachA (f : Iv → Iv → Iv × Int) : List Iv → List Iv → List Iv → List Iv × Int
  | acc, x :: a, y :: b => bif (f x y).2 != 0 then ([], (f x y).2) else eachA f (acc ++ [(f x y).1]) a b
  | acc, _, _ => (acc, 0)
def eachB (f : Iv → Iv → Iv × Int) (a b : List Iv) : List Iv × Int := bif twoB a b then eachA f [] a b else ([], 1)
theorem eachA_cons {f : Iv → Iv → Iv × Int} {acc a b : List Iv} {i : Nat} {x y : Iv} (h : a[i]? = some x) (k : b[i]? = some y) : eachA f acc (a.drop i) (b.drop i) = bif (f x y).2 != 0 then ([], (f x y).2) else eachA f (acc ++ [(f x y).1]) (a.drop (i + 1)) (b.drop (i + 1)) := by rw [drop_cons h, drop_cons k]; rfl
theorem eachA_nil {f : Iv → Iv → Iv × Int} {acc b : List Iv} : eachA f acc [] b = (acc, 0) := by cases b <;> rfl
theorem eachA_bad {f : Iv → Iv → Iv × Int} {acc a b : List Iv} {i : Nat} {x y z : Iv} {m : Int} (h : a[i]? = some x) (k : b[i]? = some y) (e : Hid ((z, m) = f x y)) (hm : ((m : Int) != 0) = true) : ([], m) = eachA f acc (a.drop i) (b.drop i) := by
  rw [eachA_cons h k, ← e.out, hm]; rfl
theorem eachA_good {f : Iv → Iv → Iv × Int} {acc a b : List Iv} {i : Nat} {x y z : Iv} {m : Int} (h : a[i]? = some x) (k : b[i]? = some y) (e : Hid ((z, m) = f x y)) (hm : ((m : Int) != 0) = false) : eachA f acc (a.drop i) (b.drop i) = eachA f (acc ++ [z]) (a.drop (i + 1)) (b.drop (i + 1)) := by
  rw [eachA_cons h k, ← e.out, hm]; rfl
/-- How wide at most. -/
def widthA : Dy → List Iv → Dy × Int
  | m, [] => (m, 0)
  | m, a :: l => bif (widthI a).2 != 0 then (Dy.zero, (widthI a).2) else widthA (bif decide (0 < cmpD (widthI a).1 m) then (widthI a).1 else m) l
def widthB (l : List Iv) : Dy × Int := bif mayB l then widthA Dy.zero l else (Dy.zero, 1)
theorem widthA_cons {m : Dy} {l : List Iv} {i : Nat} {x : Iv} (h : l[i]? = some x) : widthA m (l.drop i) = bif (widthI x).2 != 0 then (Dy.zero, (widthI x).2) else widthA (bif decide (0 < cmpD (widthI x).1 m) then (widthI x).1 else m) (l.drop (i + 1)) := by rw [drop_cons h]; rfl
/-- Ends by bits. -/
def cornA (hib : Nat → Bool) (i : Nat) (acc : List Dy) : List Iv → List Dy
  | [] => acc
  | a :: l => cornA hib (i + 1) (acc ++ [bif hib i then a.hi else a.lo]) l
theorem cornA_cons {hib : Nat → Bool} {acc : List Dy} {l : List Iv} {i : Nat} {x : Iv} (h : l[i]? = some x) : cornA hib i acc (l.drop i) = cornA hib (i + 1) (acc ++ [bif hib i then x.hi else x.lo]) (l.drop (i + 1)) := by rw [drop_cons h]; rfl
/-- Bit i of a number, as it is asked. -/
def hibV (k : Int) (i : Nat) : Int := match Sx.intBin .and .i64 (k.fdiv (2 ^ i)) 1 with | some (.int _ x) => x | _ => 0
def hib (k : Int) (i : Nat) : Bool := decide ((i : Int) < (62 : Int)) && (hibV k i == 1)
def cornB (k : Int) (l : List Iv) : List Dy := bif mayB l then cornA (hib k) 0 [] l else []
theorem pr_shr {k : Int} {i : Nat} (h : i < 62) : Sx.Prim.ev .shr [.int .i64 k, .int .u64 (i : Int)] = some (.int .i64 (k.fdiv (2 ^ i))) := by
  show (if (i : Int) < 0 then none else some (Value.int .i64 (k.fdiv (2 ^ (Nat.min (i : Int).toNat 64))))) = _
  rw [if_neg (by omega), Int.toNat_natCast, show Nat.min i 64 = i from Nat.min_eq_left (by omega)]
theorem corn_no {k : Int} {l : List Iv} (h : mayB l = false) : [] = cornB k l := by unfold cornB; rw [h]; rfl
theorem corn_yes {k : Int} {l : List Iv} (h : mayB l = true) : cornB k l = cornA (hib k) 0 [] l := by unfold cornB; rw [h]; rfl
theorem corn_step {k : Int} {l : List Iv} {out : List Dy} {i : Nat} {x : Iv} {b : Bool} (hm : cornB k l = cornA (hib k) i out (l.drop i)) (hx : l[i]? = some x) (hb : hib k i = b) : cornB k l = cornA (hib k) (i + 1) (out ++ [bif b then x.hi else x.lo]) (l.drop (i + 1)) := by rw [hm, cornA_cons hx, hb]
theorem corn_end {k : Int} {l : List Iv} {out : List Dy} {i : Nat} (hm : cornB k l = cornA (hib k) i out (l.drop i)) (hlt : decide ((i : Int) < (l.length : Int)) = false) : out = cornB k l := by rw [hm, drop_end hlt]; rfl
theorem hib_no {k : Int} {i : Nat} (h : decide (((i : Nat) : Int) < 62) = false) : hib k i = false := by unfold hib; rw [h]; rfl
theorem hib_is {k : Int} {i : Nat} {b : Bool} (h : decide (((i : Nat) : Int) < 62) = true) (h2 : (hibV k i == 1) = b) : hib k i = b := by unfold hib; rw [h, h2]; rfl
theorem width_no {l : List Iv} (h : mayB l = false) : (Dy.zero, (1 : Int)) = widthB l := by unfold widthB; rw [h]; rfl
theorem width_yes {l : List Iv} (h : mayB l = true) : widthB l = widthA Dy.zero l := by unfold widthB; rw [h]; rfl
theorem width_bad {l : List Iv} {m d : Dy} {x : Int} {i : Nat} {a : Iv} (hm : widthB l = widthA m (l.drop i)) (hx : l[i]? = some a) (e : Hid ((d, x) = widthI a)) (hz : ((x : Int) != 0) = true) : (Dy.zero, x) = widthB l := by rw [hm, widthA_cons hx, ← e.out, hz]; rfl
theorem width_step {l : List Iv} {m d : Dy} {x : Int} {i : Nat} {a : Iv} {b : Bool} (hm : widthB l = widthA m (l.drop i)) (hx : l[i]? = some a) (e : Hid ((d, x) = widthI a)) (hz : ((x : Int) != 0) = false) (hb : decide ((0 : Int) < cmpD d m) = b) : widthB l = widthA (bif b then d else m) (l.drop (i + 1)) := by rw [hm, widthA_cons hx, ← e.out, hz, hb]; rfl
theorem width_end {l : List Iv} {m : Dy} {i : Nat} (hm : widthB l = widthA m (l.drop i)) (hlt : decide ((i : Int) < (l.length : Int)) = false) : (m, (0 : Int)) = widthB l := by rw [hm, drop_end hlt]; rfl
/-- Few intervals, of few numbers. -/
def few6 (a : Iv) : Bool := decide (a.lo.m.length ≤ 6) && decide (a.hi.m.length ≤ 6)
def fewB (l : List Iv) : Bool := decide (l.length ≤ 8) && l.all few6
theorem few6_cons {l : List Iv} {i : Nat} {x : Iv} (h : l[i]? = some x) : (l.drop i).all few6 = (few6 x && (l.drop (i + 1)).all few6) := by rw [drop_cons h]; rfl
theorem few_long {l : List Iv} (h : decide ((8 : Int) < ((l.length : Nat) : Int)) = true) : false = fewB l := by
  have := of_decide_eq_true h
  unfold fewB
  rw [decide_eq_false (by omega)]; rfl
theorem few_one {l : List Iv} (h : decide ((8 : Int) < ((l.length : Nat) : Int)) = false) : fewB l = l.all few6 := by
  have := of_decide_eq_false h
  unfold fewB
  rw [decide_eq_true (by omega)]; rfl
theorem few_no {l : List Iv} {i : Nat} {x : Iv} (hm : fewB l = (l.drop i).all few6) (hx : l[i]? = some x) (h : decide ((6 : Int) < ((x.lo.m.length : Nat) : Int)) = true ∨ decide ((6 : Int) < ((x.hi.m.length : Nat) : Int)) = true) : false = fewB l := by
  rw [hm, few6_cons hx]
  have : few6 x = false := by
    unfold few6
    rcases h with h | h
    · have := of_decide_eq_true h; rw [decide_eq_false (by omega)]; rfl
    · have := of_decide_eq_true h; rw [decide_eq_false (p := x.hi.m.length ≤ 6) (by omega), Bool.and_false]
  rw [this]; rfl
theorem few_step {l : List Iv} {i : Nat} {x : Iv} (hm : fewB l = (l.drop i).all few6) (hx : l[i]? = some x) (h1 : decide ((6 : Int) < ((x.lo.m.length : Nat) : Int)) = false) (h2 : decide ((6 : Int) < ((x.hi.m.length : Nat) : Int)) = false) : fewB l = (l.drop (i + 1)).all few6 := by
  have h1 := of_decide_eq_false h1
  have h2 := of_decide_eq_false h2
  rw [hm, few6_cons hx]
  unfold few6
  rw [decide_eq_true (by omega), decide_eq_true (by omega)]; rfl
theorem few_end {l : List Iv} {i : Nat} (hm : fewB l = (l.drop i).all few6) (hlt : decide ((i : Int) < (l.length : Int)) = false) : true = fewB l := by rw [hm, drop_end hlt]; rfl
theorem fewB_len {l : List Iv} (h : fewB l = true) : l.length ≤ 8 := by unfold fewB at h; rw [Bool.and_eq_true] at h; exact of_decide_eq_true h.1
end Go.Proofs.YtbpfnooloemieaaGreatDoor
namespace Go.Proofs.YtbpfnooloemieaaGreatDoor
open Go.RowKit Pl

theorem two_parts {a b : List Iv} (h : twoB a b = true) : a.length = b.length ∧ mayB a = true ∧ mayB b = true := by
  refine ⟨?_, ?_⟩
  · unfold twoB at h
    rw [Bool.and_eq_true] at h
    have := eq_of_beq h.1
    omega
  · unfold twoB at h
    rw [Bool.and_eq_true, Bool.and_eq_true] at h
    exact h.2
end Go.Proofs.YtbpfnooloemieaaGreatDoor
