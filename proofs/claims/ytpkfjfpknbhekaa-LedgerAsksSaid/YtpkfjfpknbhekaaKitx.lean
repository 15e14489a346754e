/- The base words of these proofs: what a slice of numbers reads as, kept behind calls. -/
import Derived.Test.YtpkfjfpknbhekaaProg
import Derived.Test.YtpkfjfpknbhekaaPlx
import Derived.WalkKit
import Derived.WalkSpells
import Derived.WalkLawsBesides
import Derived.Deep.QuietTactic
import Derived.BigQuiet
namespace Go.Proofs.Ytpkfjfpknbhekaa
open Go.RowKit

/-- Element k, behind a plain name (the walk does not look into it). -/
def nth (xs : List Nat) (k : Nat) : Nat := xs.getD k 0
/-- Numbers as cells of a kind. -/
def U (K : IntKind) (xs : List Nat) : List Value := xs.map fun n : Nat => Value.int K (n : Int)
theorem U_len (K : IntKind) (xs : List Nat) : (U K xs).length = xs.length := by simp [U]
theorem U_at {K : IntKind} {xs : List Nat} {k : Nat} (h : k < xs.length) : (U K xs)[k]? = some (.int K (nth xs k : Nat)) := by
  simp [U, nth, List.getD_eq_getElem?_getD, h]
theorem U_set (K : IntKind) (xs : List Nat) (k v : Nat) : (U K xs).set k (.int K (v : Int)) = U K (xs.set k v) := by
  simp [U]
theorem U_zeros (K : IntKind) (n : Nat) : List.replicate n (Value.int K 0) = U K (List.replicate n 0) := by simp [U]

/-- A slice value that reads as numbers of a kind: nil, empty or other. -/
structure RdN (K : IntKind) (w : World) (A : Option Addr) (n c : Nat) (xs : List Nat) : Prop where
  len : xs.length = n
  cap : n ≤ c
  max : c ≤ maxLen
  at_ : 0 < n → ∃ b off, A = some ⟨b, off, none⟩ ∧ b < w.heap.size ∧ ∀ k, k < n → w.cell? ⟨b, off + k, none⟩ = some (.int K (nth xs k : Nat))

section
variable {K : IntKind} {w w' : World} {A : Option Addr} {n c : Nat} {xs : List Nat}
theorem RdN.keep (h : RdN K w A n c xs) (hs : w.heap.size ≤ w'.heap.size) (hk : ∀ b o, b < w.heap.size → w'.cell? ⟨b, o, none⟩ = w.cell? ⟨b, o, none⟩) : RdN K w' A n c xs :=
  ⟨h.len, h.cap, h.max, fun hn => by
    obtain ⟨b, off, e, hb, hc⟩ := h.at_ hn
    exact ⟨b, off, e, by omega, fun k hk' => (hk b _ hb).trans (hc k hk')⟩⟩
theorem RdN.below (h : RdN K w A n c xs) (hb : Below w.heap.size w w') : RdN K w' A n c xs :=
  h.keep hb.size fun b o hlt => hb.cell (p := ⟨b, o, none⟩) hlt
theorem RdN.drewN (h : RdN K w A n c xs) (k : Nat) : RdN K (w.drewN k) A n c xs := ⟨h.len, h.cap, h.max, h.at_⟩
theorem RdN.drew (h : RdN K w A n c xs) : RdN K w.drew A n c xs := ⟨h.len, h.cap, h.max, h.at_⟩
theorem RdN.nil (K : IntKind) (w : World) : RdN K w none 0 0 [] := ⟨rfl, Nat.le_refl _, Nat.zero_le _, fun h => absurd h (by omega)⟩
theorem RdN.empty (K : IntKind) (w : World) (A : Option Addr) (c : Nat) (hc : c ≤ maxLen) : RdN K w A 0 c [] := ⟨rfl, Nat.zero_le _, hc, fun h => absurd h (by omega)⟩
theorem nth_take {xs : List Nat} {k m : Nat} (h : k < m) : nth (xs.take m) k = nth xs k := by
  simp [nth, List.getD_eq_getElem?_getD, h]
/-- A slice cut at its end. -/
theorem RdN.take (h : RdN K w A n c xs) {m : Nat} (hm : m ≤ n) : RdN K w A m c (xs.take m) :=
  ⟨by rw [List.length_take, h.len]; omega, by have := h.cap; omega, h.max, fun h0 => by
    obtain ⟨b, off, e, hb, hc⟩ := h.at_ (by omega)
    exact ⟨b, off, e, hb, fun k hk => by rw [nth_take hk]; exact hc k (by omega)⟩⟩
/-- A row of the call's own reads as its numbers. -/
theorem RdN.of_own {base : Nat} {e : TypeId} (h : w.ownsRow base e 1 (.slice A n c) n (U K xs)) : RdN K w A n c xs := by
  obtain ⟨h1, h2⟩ := h
  have hl : xs.length = n := by rw [U_len] at h1; omega
  rcases h2 with ⟨hv, h0⟩ | ⟨g, cap, cur, hv, hg, hh, hnc, hm, hs, ht⟩
  · injection hv with e1 e2 e3
    subst e1 e2 e3
    exact ⟨hl, Nat.le_refl _, Nat.zero_le _, fun h => absurd h (by omega)⟩
  · injection hv with e1 e2 e3
    subst e1 e3
    refine ⟨hl, hnc, hm, fun hn => ⟨g, 0, rfl, ?_, fun k hk => ?_⟩⟩
    · rcases Nat.lt_or_ge g w.heap.size with hlt | hge
      · exact hlt
      · rw [Array.getElem?_eq_none hge] at hh; cases hh
    · have hcell : w.cell? ⟨g, 0 + k, none⟩ = cur[k]? := by simp [World.cell?, hh]
      rw [hcell, ← Array.getElem?_toList]
      have := congrArg (·[k]?) ht
      simp only [List.getElem?_take] at this
      rw [if_pos (by omega), U_at (by omega)] at this
      exact this
end

theorem own_cell {K : IntKind} {w : World} {base g n cap : Nat} {e : TypeId} {xs : List Nat} (h : w.ownsRow base e 1 (.slice (some ⟨g, 0, none⟩) n cap) n (U K xs)) (j : Nat) (hj : j < n) :
    w.cell? ⟨g, j, none⟩ = some (.int K (nth xs j : Nat)) := by
  rw [h.cellAt j (by omega)]
  exact U_at (by have := h.1; rw [U_len] at this; omega)
theorem own_len {K : IntKind} {w : World} {base n : Nat} {v : Value} {e : TypeId} {xs : List Nat} (h : w.ownsRow base e 1 v n (U K xs)) : xs.length = n := by
  have := h.1; rw [U_len] at this; omega
theorem own_set {K : IntKind} {w : World} {base g n cap : Nat} {e : TypeId} {xs : List Nat} (h : w.ownsRow base e 1 (.slice (some ⟨g, 0, none⟩) n cap) n (U K xs)) (j v : Nat) :
    (w.setCell ⟨g, j, none⟩ (.int K (v : Int))).ownsRow base e 1 (.slice (some ⟨g, 0, none⟩) n cap) n (U K (xs.set j v)) := by
  rw [← U_set]
  exact (h.stored j _).1
/-- What holds of old cells behind a call that only makes memory. -/
theorem bcell {W w1 : World} (hb : Below W.heap.size W w1) : (∀ b o, b < W.heap.size → w1.cell? ⟨b, o, none⟩ = W.cell? ⟨b, o, none⟩) ∧ (∀ b o, b < W.heap.size → w1.frozen? ⟨b, o, none⟩ = W.frozen? ⟨b, o, none⟩) :=
  ⟨fun b o h => hb.cell (p := ⟨b, o, none⟩) h, fun b o h => hb.frozen (p := ⟨b, o, none⟩) h⟩
theorem below_drewN {B : Nat} {a w : World} (h : Below B a w) (n : Nat) : Below B a (w.drewN n) := ⟨h.os, h.tape, h.output, h.size, h.block⟩
theorem below_box {w w2 : World} {o : Obj} (hb : Below (w.alloc o).heap.size (w.alloc o) w2) : Below w.heap.size w w2 :=
  ((Below.refl _ _).alloc (Nat.le_refl _) _).trans (hb.mono (by simp))
theorem hide {p : Prop} (h : p) : Hid p := h
theorem ret_int {k : IntKind} {a b : Int} (h : a = b) : Ending.returned (.int k a) = .returned (.int k b) := by rw [h]
theorem ret_bool {a b : Bool} (h : a = b) : Ending.returned (.bool a) = .returned (.bool b) := by rw [h]
/-- A quiet call (the world as it was) in a region that draws: the first such region, a later one. -/
theorem quiet1 {P : Program} {f : FuncId} {args : Array Value} {w : World} {n : Nat} {v : Value}
    (h : Calls P f args (w.drewN n) fun e w' => e = .returned v ∧ w.drewN n = w') : Calls P f args (w.drewN n) fun e w'' => e = .returned v ∧ ∃ m, w'' = w.drewN m :=
  h.mono fun _ _ ⟨he, hm⟩ => ⟨he, n, hm.symm⟩
theorem quiet2 {P : Program} {f : FuncId} {args : Array Value} {w : World} {a n : Nat} {v : Value}
    (h : Calls P f args (w.drewN (a + n)) fun e w' => e = .returned v ∧ w.drewN (a + n) = w') :
    Calls P f args (w.drewN (a + n)) fun e w'' => e = .returned v ∧ ∃ m, w'' = w.drewN (a + m) :=
  h.mono fun _ _ ⟨he, hm⟩ => ⟨he, n, hm.symm⟩
end Go.Proofs.Ytpkfjfpknbhekaa
