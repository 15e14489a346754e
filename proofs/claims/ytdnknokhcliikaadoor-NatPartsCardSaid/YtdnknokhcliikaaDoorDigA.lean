/- The quotient's limb (nat.digit): a piece of a row; what a call that only writes one block keeps. -/
import Derived.Test.YtdnknokhcliikaaDoorAppZ
import Derived.Test.YtdnknokhcliikaaDoorNatF
namespace Go.Proofs.YtdnknokhcliikaaDoor
open Go.RowKit Pl

/-- A piece of a row, from place J on, put anew. -/
def emb (us : List Nat) (J : Nat) (cur : List Nat) : List Nat := us.take J ++ (cur ++ us.drop (J + cur.length))
section
variable {us cur : List Nat} {J : Nat} (h : J + cur.length ≤ us.length)
include h
theorem emb_len : (emb us J cur).length = us.length := by
  unfold emb
  simp only [List.length_append, List.length_take, List.length_drop]
  omega
theorem emb_nth {k : Nat} (hk : k < cur.length) : nth (emb us J cur) (J + k) = nth cur k := by
  unfold emb nth
  rw [List.getD_eq_getElem?_getD, List.getD_eq_getElem?_getD, List.getElem?_append_right (by rw [List.length_take]; omega), List.length_take, Nat.min_eq_left (by omega), Nat.add_sub_cancel_left, List.getElem?_append_left hk]
theorem emb_set {k : Nat} (hk : k < cur.length) (v : Nat) : (emb us J cur).set (J + k) v = emb us J (cur.set k v) := by
  unfold emb
  rw [List.set_append_right _ _ (by rw [List.length_take]; omega), List.length_take, Nat.min_eq_left (by omega), Nat.add_sub_cancel_left, List.set_append_left _ _ hk, List.length_set]
end
theorem emb_self {us : List Nat} {J m : Nat} (h : J + m ≤ us.length) : emb us J ((us.drop J).take m) = us := by
  unfold emb
  rw [List.length_take, List.length_drop, Nat.min_eq_left (by omega), ← List.drop_drop, List.take_append_drop, List.take_append_drop]
theorem seg_len {us : List Nat} {J m : Nat} (h : J + m ≤ us.length) : ((us.drop J).take m).length = m := by
  rw [List.length_take, List.length_drop]; omega

/-! Only block g has changed. -/
theorem only_refl (w : World) (g : Nat) : w.grownBy w (some g) := ⟨rfl, rfl, rfl, Nat.le_refl _, fun _ _ _ => rfl⟩
theorem only_set {w0 w : World} {g : Nat} (h : w0.grownBy w (some g)) (j : Nat) (v : Value) : w0.grownBy (w.setCell ⟨g, j, none⟩ v) (some g) :=
  ⟨h.os, h.tape, h.output, by simpa [World.setCell] using h.size, fun k hk hne => by
    rw [Below.heap_setCell _ _ _ _ (by intro e; exact hne (by simpa using e))]
    exact h.block k hk hne⟩
theorem only_drewN {w0 w : World} {g : Nat} (h : w0.grownBy w (some g)) (k : Nat) : w0.grownBy (w.drewN k) (some g) := ⟨h.os, h.tape, h.output, h.size, h.block⟩
theorem only_drew {w0 w : World} {g : Nat} (h : w0.grownBy w (some g)) : w0.grownBy w.drew (some g) := ⟨h.os, h.tape, h.output, h.size, h.block⟩
theorem only_below {w0 w w' : World} {g : Nat} (h : w0.grownBy w (some g)) (hb : Below w.heap.size w w') : w0.grownBy w' (some g) :=
  ⟨hb.os.trans h.os, hb.tape.trans h.tape, hb.output.trans h.output, Nat.le_trans h.size hb.size, fun k hk hne => (hb.block k (Nat.lt_of_lt_of_le hk h.size)).trans (h.block k hk hne)⟩
theorem only_trans {w0 w w' : World} {g : Nat} (h : w0.grownBy w (some g)) (hb : w.grownBy w' (some g)) : w0.grownBy w' (some g) :=
  ⟨hb.os.trans h.os, hb.tape.trans h.tape, hb.output.trans h.output, Nat.le_trans h.size hb.size, fun k hk hne => (hb.block k (Nat.lt_of_lt_of_le hk h.size) hne).trans (h.block k hk hne)⟩
theorem only_cell {w w' : World} {g b o : Nat} (h : w.grownBy w' (some g)) (hb : b < w.heap.size) (hne : b ≠ g) : w'.cell? ⟨b, o, none⟩ = w.cell? ⟨b, o, none⟩ :=
  World.cell?_of_block (h.block b hb (by simpa using hne))
theorem below_only {B : Nat} {w0 w w' : World} {g : Nat} (h : Below B w0 w) (hg : w.grownBy w' (some g)) (hB : B ≤ g) (hs : B ≤ w.heap.size) : Below B w0 w' :=
  h.grown hg hs (fun k hk => by simp at hk; omega)
theorem two_le {hi lo r t : Nat} (h : hi < r) (hl : lo < BB) : hi * BB + lo ≤ r * BB + t := by
  have h1 : (hi + 1) * BB ≤ r * BB := Nat.mul_le_mul_right _ h
  rw [Nat.add_mul, Nat.one_mul] at h1
  omega
theorem two_lt {hi lo r t : Nat} (h : r < hi) (ht : t < BB) : r * BB + t < hi * BB + lo := by
  have h1 : (r + 1) * BB ≤ hi * BB := Nat.mul_le_mul_right _ h
  rw [Nat.add_mul, Nat.one_mul] at h1
  omega

end Go.Proofs.YtdnknokhcliikaaDoor
