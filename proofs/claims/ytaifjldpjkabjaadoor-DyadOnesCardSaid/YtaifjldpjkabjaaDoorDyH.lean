/- Dyads in variables of the call's own; halvings. -/
import Derived.Test.YtaifjldpjkabjaaDoorDyG
namespace Go.Proofs.YtaifjldpjkabjaaDoor
open Go.RowKit Pl

/-- Block X is a variable that holds a Dyad. -/
structure BoxDy (w : World) (X : Nat) (d : Dy) (A : Option Addr) (n c : Nat) : Prop where
  c0 : w.cell? ⟨X, 0, none⟩ = some (.bool d.neg)
  c1 : w.cell? ⟨X, 1, none⟩ = some (.slice A n c)
  c2 : w.cell? ⟨X, 2, none⟩ = some (.int .i64 d.e)
  rd : RdD w (.agg #[.bool d.neg, .slice A n c, .int .i64 d.e]) d
  no : ∀ o x, w.cell? ⟨X, o, none⟩ ≠ some (.int .u64 x)
  fr : ∀ o, w.frozen? ⟨X, o, none⟩ = false
  lt : X < w.heap.size
theorem BoxDy.new {w : World} {d : Dy} {A : Option Addr} {n c : Nat} {t : TypeId} (h : RdD w (.agg #[.bool d.neg, .slice A n c, .int .i64 d.e]) d) :
    BoxDy (w.alloc (.cells #[.bool d.neg, .slice A n c, .int .i64 d.e] t)) w.heap.size d A n c := by
  refine ⟨by simp [go_sem], by simp [go_sem], by simp [go_sem], h.below (by go_grown), fun o x => ?_, fun o => by simp [go_sem], by simp⟩
  rw [cell_of_row _ _ _ _ _ _ (heap_alloc_new w _)]
  rcases o with _ | _ | _ | o <;> simp
theorem BoxDy.below {w w' : World} {X : Nat} {d : Dy} {A : Option Addr} {n c : Nat} (h : BoxDy w X d A n c) (hb : Below w.heap.size w w') : BoxDy w' X d A n c := by
  obtain ⟨hcc, hff⟩ := bcell hb
  exact ⟨(hcc _ _ h.lt).trans h.c0, (hcc _ _ h.lt).trans h.c1, (hcc _ _ h.lt).trans h.c2, h.rd.below hb, fun o x => by rw [hcc _ _ h.lt]; exact h.no o x, fun o => (hff _ _ h.lt).trans (h.fr o), Nat.lt_of_lt_of_le h.lt hb.size⟩
theorem BoxDy.store {w : World} {X : Nat} {d d' : Dy} {A B : Option Addr} {n c m k : Nat} (h : BoxDy w X d A n c) (h' : RdD w (.agg #[.bool d'.neg, .slice B m k, .int .i64 d'.e]) d') :
    BoxDy (((w.setCell ⟨X, 0, none⟩ (.bool d'.neg)).setCell ⟨X, 1, none⟩ (.slice B m k)).setCell ⟨X, 2, none⟩ (.int .i64 d'.e)) X d' B m k := by
  have hc0 := h.c0
  have hc1 := h.c1
  have hc2 := h.c2
  have hno := h.no
  have hfr := h.fr
  have hlt := h.lt
  have keep : ∀ b o x, w.cell? ⟨b, o, none⟩ = some (.int .u64 x) → (((w.setCell ⟨X, 0, none⟩ (.bool d'.neg)).setCell ⟨X, 1, none⟩ (.slice B m k)).setCell ⟨X, 2, none⟩ (.int .i64 d'.e)).cell? ⟨b, o, none⟩ = some (.int .u64 x) := by
    intro b o x hx
    have n1 : b ≠ X := by rintro rfl; exact hno _ _ hx
    rw [World.cell?_setCell_other _ _ _ _ (by intro e; injection e with e; omega), World.cell?_setCell_other _ _ _ _ (by intro e; injection e with e; omega), World.cell?_setCell_other _ _ _ _ (by intro e; injection e with e; omega)]
    exact hx
  refine ⟨by simp [go_sem, hc0], by simp [go_sem, hc1], by simp [go_sem, hc2], ?_, ?_, ?_, by simp [World.setCell, hlt]⟩
  · obtain ⟨A2, n2, c2, e2, r1, r2⟩ := h'
    injection e2 with e2
    exact ⟨_, _, _, rfl, by
      have := congrArg Array.toList e2
      simp at this
      obtain ⟨rfl, rfl, rfl⟩ := this
      exact r1.keepU (by simp [World.setCell]) keep, r2⟩
  · intro o x hx
    by_cases o0 : o = 0
    · subst o0; simp [go_sem, hc0] at hx
    · by_cases o1 : o = 1
      · subst o1; simp [go_sem, hc1] at hx
      · by_cases o2 : o = 2
        · subst o2; simp [go_sem, hc2] at hx
        · rw [World.cell?_setCell_other _ _ _ _ (by intro e; injection e with e1 e2; omega), World.cell?_setCell_other _ _ _ _ (by intro e; injection e with e1 e2; omega), World.cell?_setCell_other _ _ _ _ (by intro e; injection e with e1 e2; omega)] at hx
          exact hno _ _ hx
  · intro o
    rw [World.frozen?_setCell, World.frozen?_setCell, World.frozen?_setCell]
    exact hfr o

theorem signD_pos {d : Dy} (h : 0 < signD d) : mayD d = true ∧ d.m ≠ [] ∧ d.neg = false := by
  unfold signD at h
  by_cases h1 : mayD d = true
  · by_cases h2 : d.m.length = 0
    · simp [h1, h2] at h
    · cases h3 : d.neg
      · exact ⟨h1, fun e => h2 (by rw [e]; rfl), rfl⟩
      · simp [h1, h2, h3] at h
  · simp [h1] at h
theorem val_odd {xs : List Nat} (h : xs ≠ []) (ho : nth xs 0 % 2 = 1) : val BB xs % 2 = 1 := by
  cases xs with
  | nil => exact absurd rfl h
  | cons x xs =>
    simp [nth] at ho
    simp only [val]
    have : BB = 2 * 2 ^ 63 := by decide
    rw [this, Nat.mul_assoc, Nat.add_mul_mod_self_left]
    exact ho
/-- A number that may be, halved. -/
theorem shift_half {d : Dy} (h : mayD d = true) (h0 : d.m ≠ []) (hl : Lim BB d.m) : shiftS d (-1) = if -1048576 ≤ d.e - 1 then (⟨d.neg, d.m, d.e - 1⟩, 0) else (Dy.zero, 3) := by
  have h0' : d.m.length ≠ 0 := fun e => h0 (List.length_eq_zero_iff.1 e)
  obtain ⟨hC, h64, he1, he2⟩ := mayD_limbs h
  have hodd : nth d.m 0 % 2 = 1 := by
    unfold mayD at h
    rw [if_neg h0'] at h
    simp only [Bool.and_eq_true, decide_eq_true_eq] at h
    exact h.1.1.2
  have hv := val_odd h0 hodd
  have ht := tz_odd hv
  unfold shiftS
  rw [if_neg (by simp [h]), if_neg h0', if_neg (by omega)]
  unfold fitS
  rw [if_neg (by omega), ht]
  have hli : limbs BB (val BB d.m / 2 ^ 0) = d.m := limbs_of BB_gt1 hl hC (by simp)
  rw [hli, if_neg (by omega)]
  by_cases hlo : -1048576 ≤ d.e - 1
  · rw [if_pos hlo, if_neg (by omega), if_neg (by omega)]
    simp
    omega
  · rw [if_neg hlo, if_pos (by omega)]
theorem mayD_half {d : Dy} (h : mayD d = true) (h0 : d.m ≠ []) {e : Int} (h1 : -1048576 ≤ e) (h2 : e ≤ 1048576) : mayD ⟨d.neg, d.m, e⟩ = true := by
  have h0' : d.m.length ≠ 0 := fun e => h0 (List.length_eq_zero_iff.1 e)
  unfold mayD at h ⊢
  rw [if_neg h0'] at h ⊢
  simp only [Bool.and_eq_true, decide_eq_true_eq] at h ⊢
  exact ⟨⟨h.1.1, h1⟩, h2⟩
end Go.Proofs.YtaifjldpjkabjaaDoor
