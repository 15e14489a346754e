/- Contracts of package dyad, part A: the face, fit, May, Sign. -/
import Derived.Test.YtpkfjfpknbhekaaBitsx
import Derived.Defers
import Derived.Recover
import Derived.OneCell
import Derived.Handy
namespace Go.Proofs.Ytpkfjfpknbhekaa
open Go.RowKit Pl

/-- A dyadic number as data: sign, limbs, exponent. -/
structure Dy where
  neg : Bool
  m : List Nat
  e : Int
/-- The zero Dyad. -/
def Dy.zero : Dy := ⟨false, [], 0⟩
/-- A value that reads as a Dyad. -/
def RdD (w : World) (v : Value) (d : Dy) : Prop :=
  ∃ A n c, v = .agg #[.bool d.neg, .slice A n c, .int .i64 d.e] ∧ RdN .u64 w A n c d.m ∧ Lim BB d.m ∧ -9223372036854775808 ≤ d.e ∧ d.e ≤ 9223372036854775807
theorem RdD.below {w w' : World} {v : Value} {d : Dy} (h : RdD w v d) (hb : Below w.heap.size w w') : RdD w' v d := by
  obtain ⟨A, n, c, h1, h2, h3⟩ := h
  exact ⟨A, n, c, h1, h2.below hb, h3⟩
theorem RdD.drewN {w : World} {v : Value} {d : Dy} (h : RdD w v d) (k : Nat) : RdD (w.drewN k) v d := by
  obtain ⟨A, n, c, h1, h2, h3⟩ := h
  exact ⟨A, n, c, h1, h2.drewN k, h3⟩
theorem RdD.drew {w : World} {v : Value} {d : Dy} (h : RdD w v d) : RdD w.drew v d := by
  obtain ⟨A, n, c, h1, h2, h3⟩ := h
  exact ⟨A, n, c, h1, h2.drew, h3⟩
theorem RdD.zero (w : World) : RdD w (.agg #[.bool false, .slice none 0 0, .int .i64 0]) Dy.zero := ⟨_, _, _, rfl, RdN.nil _ _, Lim.nil, by decide, by decide⟩
/-- dyad.May. -/
def mayD (d : Dy) : Bool :=
  if d.m.length = 0 then !d.neg && decide (d.e = 0) else mayN d.m && decide (nth d.m 0 % 2 = 1) && decide (-1048576 ≤ d.e) && decide (d.e ≤ 1048576)
theorem and_one (x : Nat) (hx : x < BB) : bits .and .u64 (x : Int) 1 = ((x % 2 : Nat) : Int) := by
  have h := u64_and_nat x 1 hx (by omega)
  rw [nat_mask1] at h
  exact h
theorem cell_keep_alloc {w : World} {p : Addr} {v : Value} (h : w.cell? p = some v) (o : Obj) : (w.alloc o).cell? p = some v := by
  have hlt : p.block < w.heap.size := by
    rcases Nat.lt_or_ge p.block w.heap.size with h2 | h2
    · exact h2
    · simp [World.cell?, Array.getElem?_eq_none h2] at h
  rw [World.cell?_alloc_lt w o p hlt]
  exact h

set_option maxRecDepth 100000 in
set_option maxHeartbeats 1000000 in
theorem mayD_any (v : Value) (d : Dy) (w : World) (h : RdD w v d) :
    Calls Try.prog 32 #[v] w fun e w' => e = .returned (.bool (mayD d)) ∧ Below w.heap.size w w' := by
  obtain ⟨A, n, c, rfl, hr, hl, he1, he2⟩ := h
  obtain ⟨neg, m, e⟩ := d
  simp only at hr hl he1 he2 ⊢
  have hlen := hr.len
  by_cases h0 : n = 0
  · subst h0
    have hm : m = [] := List.length_eq_zero_iff.1 hlen
    subst hm
    cases neg
    · by_cases hez : e = 0
      · subst hez
        go_enter Try.func32, Try.ntmps32
        go_wp2
        go_ret
        exact ⟨rfl, by go_grown⟩
      · have e1 : (e == 0) = false := beq_eq_false_iff_ne.2 hez
        have hres : Hid (mayD ⟨false, [], e⟩ = false) := by unfold Hid mayD; simp [hez]
        clear hez
        go_enter Try.func32, Try.ntmps32
        go_wp2
        go_ret
        exact ⟨ret_bool hres.out.symm, by go_grown⟩
    · go_enter Try.func32, Try.ntmps32
      go_wp2
      go_ret
      exact ⟨rfl, by go_grown⟩
  · have e0 : ((n : Int) == 0) = false := beq_eq_false_iff_ne.2 (by omega)
    have hr1 := hr.below ((Below.refl w.heap.size w).alloc (Nat.le_refl _) (.cells #[.bool neg, .slice A n c, .int .i64 e] 24))
    by_cases hN : mayN m = true
    · obtain ⟨b, off, rfl, hb, hc⟩ := hr.at_ (by omega)
      have hcell := cell_keep_alloc (hc 0 (by omega)) (.cells #[.bool neg, .slice (some ⟨b, off, none⟩) n c, .int .i64 e] 24)
      rw [Nat.add_zero] at hcell
      have hx : nth m 0 < BB := hl.getD BB_pos 0
      have hn0 : (0 : Int) < (n : Int) := by omega
      have hlen' : ¬ m.length = 0 := by omega
      by_cases ho : nth m 0 % 2 = 1
      · have hand : bits .and .u64 (nth m 0 : Int) 1 = 1 := by rw [and_one _ hx, ho]; rfl
        have hres : Hid (mayD ⟨neg, m, e⟩ = (decide (-1048576 ≤ e) && decide (e ≤ 1048576))) := by unfold Hid mayD; simp [hN, hlen', ho]
        clear hlen' h0 ho
        by_cases h1 : -1048576 ≤ e
        · have g1 : decide (-1048576 ≤ e) = true := by simpa using h1
          by_cases h2 : e ≤ 1048576
          · have g2 : decide (e ≤ 1048576) = true := by simpa using h2
            go_enter Try.func32, Try.ntmps32
            go_wp2_with (go_at_call 76; refine (may_any _ _ _ _ _ hr1).mono ?_; rw [hN]; rintro e w' ⟨rfl, rfl⟩)
            go_ret
            exact ⟨ret_bool (by rw [hres.out, g1, g2]; rfl), by go_grown⟩
          · have g2 : decide (e ≤ 1048576) = false := by simpa using h2
            go_enter Try.func32, Try.ntmps32
            go_wp2_with (go_at_call 76; refine (may_any _ _ _ _ _ hr1).mono ?_; rw [hN]; rintro e w' ⟨rfl, rfl⟩)
            go_ret
            exact ⟨ret_bool (by rw [hres.out, g1, g2]; rfl), by go_grown⟩
        · have e1 : decide (-1048576 ≤ e) = false := by simp; omega
          go_enter Try.func32, Try.ntmps32
          go_wp2_with (go_at_call 76; refine (may_any _ _ _ _ _ hr1).mono ?_; rw [hN]; rintro e w' ⟨rfl, rfl⟩)
          go_ret
          exact ⟨ret_bool (by rw [hres.out, e1]; rfl), by go_grown⟩
      · have ho2 : nth m 0 % 2 = 0 := by omega
        have hand : bits .and .u64 (nth m 0 : Int) 1 = 0 := by rw [and_one _ hx, ho2]; rfl
        have hres : Hid (mayD ⟨neg, m, e⟩ = false) := by unfold Hid mayD; simp [hlen', ho2]
        clear hlen' h0 ho ho2
        go_enter Try.func32, Try.ntmps32
        go_wp2_with (go_at_call 76; refine (may_any _ _ _ _ _ hr1).mono ?_; rw [hN]; rintro e w' ⟨rfl, rfl⟩)
        go_ret
        exact ⟨ret_bool hres.out.symm, by go_grown⟩
    · have hN' : mayN m = false := by simpa using hN
      have hres : Hid (mayD ⟨neg, m, e⟩ = false) := by unfold Hid mayD; simp [hN', hlen, h0]
      clear h0 hN
      go_enter Try.func32, Try.ntmps32
      go_wp2_with (go_at_call 76; refine (may_any _ _ _ _ _ hr1).mono ?_; rintro e w' ⟨rfl, rfl⟩)
      go_ret
      exact ⟨ret_bool hres.out.symm, by go_grown⟩
end Go.Proofs.Ytpkfjfpknbhekaa
