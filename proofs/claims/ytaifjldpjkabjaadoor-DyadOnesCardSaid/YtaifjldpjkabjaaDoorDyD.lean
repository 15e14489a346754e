/- Contracts of package dyad, part D: fit. -/
import Derived.Test.YtaifjldpjkabjaaDoorDyC
namespace Go.Proofs.YtaifjldpjkabjaaDoor
open Go.RowKit Pl

theorem limbs_len64 {n k : Nat} (h : n < 2 ^ (64 * k)) : (limbs BB n).length ≤ k := by
  rw [limbs_len_le BB_gt1, pow_BB]; exact h
theorem limbs_div_len {xs : List Nat} (hl : Lim BB xs) (k : Nat) : (limbs BB (val BB xs / 2 ^ k)).length ≤ xs.length := by
  rw [limbs_len_le BB_gt1]
  exact Nat.lt_of_le_of_lt (Nat.div_le_self _ _) (val_lt hl)
theorem tz_len {xs : List Nat} (hl : Lim BB xs) (h0 : val BB xs ≠ 0) : tz (val BB xs) < 64 * xs.length := by
  refine Nat.lt_of_lt_of_le (tz_lt_blen h0) (blen_le.2 ?_)
  rw [← pow_BB]; exact val_lt hl

theorem box3_not1 {w : World} {o : Nat} {a : Bool} {e x : Int} {t : TypeId} (h : (w.alloc (.cells #[.bool a, .slice none 0 0, .int .i64 e] t)).cell? ⟨w.heap.size, o, none⟩ = some (.int .u64 x)) : False := by
  rw [cell_of_row _ _ _ _ _ _ (heap_alloc_new w _)] at h
  rcases o with _ | _ | _ | o <;> simp at h
/-- A Dyad stored into a variable of the call's own. -/
theorem store_dy {w w2 : World} {t : TypeId} {v0 v1 v2 : Value} {N : Nat} (hN : w.heap.size = N) (hb2 : Below (w.alloc (.cells #[.bool false, .slice none 0 0, .int .i64 0] t)).heap.size (w.alloc (.cells #[.bool false, .slice none 0 0, .int .i64 0] t)) w2) :
    (∀ {A : Option Addr} {n c : Nat} {xs : List Nat}, RdN .u64 w2 A n c xs → RdN .u64 (((w2.setCell ⟨N, 0, none⟩ v0).setCell ⟨N, 1, none⟩ v1).setCell ⟨N, 2, none⟩ v2) A n c xs) ∧
    Below w.heap.size w (((w2.setCell ⟨N, 0, none⟩ v0).setCell ⟨N, 1, none⟩ v1).setCell ⟨N, 2, none⟩ v2) ∧
    (((w2.setCell ⟨N, 0, none⟩ v0).setCell ⟨N, 1, none⟩ v1).setCell ⟨N, 2, none⟩ v2).cell? ⟨N, 0, none⟩ = some v0 ∧
    (((w2.setCell ⟨N, 0, none⟩ v0).setCell ⟨N, 1, none⟩ v1).setCell ⟨N, 2, none⟩ v2).cell? ⟨N, 1, none⟩ = some v1 ∧
    (((w2.setCell ⟨N, 0, none⟩ v0).setCell ⟨N, 1, none⟩ v1).setCell ⟨N, 2, none⟩ v2).cell? ⟨N, 2, none⟩ = some v2 := by
  subst hN
  obtain ⟨hcc, hff⟩ := bcell hb2
  have k0 : w2.cell? ⟨w.heap.size, 0, none⟩ = some (.bool false) := by rw [hcc _ _ (by simp)]; simp [go_sem]
  have k1 : w2.cell? ⟨w.heap.size, 1, none⟩ = some (.slice none 0 0) := by rw [hcc _ _ (by simp)]; simp [go_sem]
  have k2 : w2.cell? ⟨w.heap.size, 2, none⟩ = some (.int .i64 0) := by rw [hcc _ _ (by simp)]; simp [go_sem]
  refine ⟨fun h => h.keepU (by simp [World.setCell]) fun b o x hx => ?_, ?_, ?_, ?_, ?_⟩
  · have n1 : b ≠ w.heap.size := by
      rintro rfl
      rw [hcc _ _ (by simp)] at hx
      exact box3_not1 hx
    rw [World.cell?_setCell_other _ _ _ _ (by intro e; injection e with e; omega), World.cell?_setCell_other _ _ _ _ (by intro e; injection e with e; omega), World.cell?_setCell_other _ _ _ _ (by intro e; injection e with e; omega)]
    exact hx
  · exact (((below_box hb2).setCell (Nat.le_refl _) _).setCell (Nat.le_refl _) _).setCell (Nat.le_refl _) _
  · simp [go_sem, k0]
  · simp [go_sem, k1]
  · simp [go_sem, k2]

set_option maxRecDepth 100000 in
set_option maxHeartbeats 1000000 in
theorem fit_any (neg : Bool) (A : Option Addr) (n c : Nat) (xs : List Nat) (e : Int) (w : World) (h : RdN .u64 w A n c xs) (hl : Lim BB xs) (hC : Cnl xs) (hn : n ≤ 10000) (he1 : -9223372036854775808 ≤ e) (he2 : e ≤ 9223372036854775807) (hT : TabAt w) :
    Calls Tryd.prog 67 #[.bool neg, .slice A n c, .int .i64 e] w (FitPost w (fitS neg (val BB xs) e)) := by
  have hlen := h.len
  by_cases h0 : n = 0
  · subst h0
    have hx : xs = [] := List.length_eq_zero_iff.1 hlen
    subst hx
    go_enter Tryd.func67, Tryd.ntmps67
    go_wp2
    refine bodyPost_ret (v := .agg #[.bool false, .slice none 0 0, .int .i64 0]) (by simp [results, Tryd.results67, go_sem]) rfl ⟨by go_grown, .inl ⟨rfl, _, rfl, RdD.zero _⟩⟩
  · have e0 : ((n : Int) == 0) = false := beq_eq_false_iff_ne.2 (by omega)
    have hv : val BB xs ≠ 0 := by
      have := val_pos_of_can BB_pos hC (by intro e; rw [e] at hlen; exact h0 hlen.symm)
      omega
    have hz : zerosN xs = (tz (val BB xs) : Int) := by unfold zerosN; rw [if_neg hv]
    have hz1 := tz_len hl hv
    have hb1 : Below w.heap.size w (w.alloc (.cells #[.bool false, .slice none 0 0, .int .i64 0] 24)) := by go_grown
    have h1 := h.below hb1
    have hT1 := hide (hT.below hb1)
    obtain ⟨z, hzz⟩ : ∃ z, z = tz (val BB xs) := ⟨_, rfl⟩
    have hzl : z < 64 * xs.length := by omega
    have HZ : Hid (zerosN xs = (z : Int)) := by rw [hzz]; exact hz
    obtain ⟨ys, hys⟩ : ∃ ys, ys = limbs BB (val BB xs / 2 ^ z) := ⟨_, rfl⟩
    have hyl : ys.length ≤ xs.length := by rw [hys]; exact limbs_div_len hl z
    have hyL : Lim BB ys := by rw [hys]; exact limbs_lim BB_gt1 _
    have HR : Hid (fitS neg (val BB xs) e = if ¬ ys.length ≤ 64 then (Dy.zero, 2) else if ¬ (e ≤ 1048576 ∧ -1048576 - (z : Int) ≤ e) then (Dy.zero, 3) else if ¬ e + (z : Int) ≤ 1048576 then (Dy.zero, 3) else (⟨neg, ys, e + (z : Int)⟩, 0)) := by
      unfold Hid fitS
      rw [if_neg hv, hys, hzz]
    have HY := hide hys
    clear hz hz1 hys hzz hv
    go_enter Tryd.func67, Tryd.ntmps67
    go_wp2_with (go_at_call 105; refine (zeros_any _ _ _ _ _ h1 hl (by omega) hT1.out).mono ?_; rw [HZ.out]; rintro e w' ⟨rfl, rfl⟩)
    refine (right_any _ _ _ _ _ _ h1 hl (by omega) (by omega)).mono ?_
    rintro e1 w2 ⟨A', n', c', rfl, hr2, hb2⟩
    rw [← HY.out] at hr2
    obtain ⟨hcc, hff⟩ := bcell hb2
    have hyn := hr2.len
    subst hyn
    by_cases g1 : ys.length ≤ 64
    · have d1 : decide ((ys.length : Int) ≤ 64) = true := by simp; omega
      by_cases g2 : e ≤ 1048576
      · have d2 : decide (e ≤ 1048576) = true := by simpa using g2
        by_cases g3 : -1048576 - (z : Int) ≤ e
        · have d3 : decide (-1048576 - (z : Int) ≤ e) = true := by simpa using g3
          by_cases g4 : e + (z : Int) ≤ 1048576
          · have d4 : decide (e + (z : Int) ≤ 1048576) = true := by simpa using g4
            go_wp2_with (go_at_call 65; refine (must_yes _ _).mono ?_; rintro e w' ⟨rfl, rfl⟩)
            obtain ⟨s1, s2, q0, q1, q2⟩ := store_dy (v0 := .bool neg) (v1 := .slice A' ys.length c') (v2 := .int .i64 (e + (z : Int))) rfl hb2
            refine bodyPost_ret (v := .agg #[.bool neg, .slice A' ys.length c', .int .i64 (e + (z : Int))]) (by simp [results, Tryd.results67, go_sem, q0, q1, q2]) rfl ⟨s2, .inl ?_⟩
            rw [HR.out, if_neg (by omega), if_neg (by omega), if_neg (by omega)]
            exact ⟨rfl, _, rfl, _, _, _, rfl, s1 hr2, hyL, by show _ ≤ e + (z : Int); omega, by show e + (z : Int) ≤ _; omega⟩
          · have d4 : decide (e + (z : Int) ≤ 1048576) = false := by simpa using g4
            go_wp2_with (go_at_call 65; first | ((with_reducible refine (must_yes _ _).mono ?_); rintro e w' ⟨rfl, rfl⟩) | ((with_reducible refine (must_no _ _).mono ?_); rintro e w' ⟨rfl, rfl⟩))
            refine ⟨rfl, below_box hb2, .inr ?_⟩
            rw [HR.out, if_neg (by omega), if_neg (by omega), if_pos g4]
            exact ⟨by decide, rfl, rfl⟩
        · have d3 : decide (-1048576 - (z : Int) ≤ e) = false := by simpa using g3
          go_wp2_with (go_at_call 65; first | ((with_reducible refine (must_yes _ _).mono ?_); rintro e w' ⟨rfl, rfl⟩) | ((with_reducible refine (must_no _ _).mono ?_); rintro e w' ⟨rfl, rfl⟩))
          refine ⟨rfl, below_box hb2, .inr ?_⟩
          rw [HR.out, if_neg (by omega), if_pos (by omega)]
          exact ⟨by decide, rfl, rfl⟩
      · have d2 : decide (e ≤ 1048576) = false := by simpa using g2
        go_wp2_with (go_at_call 65; first | ((with_reducible refine (must_yes _ _).mono ?_); rintro e w' ⟨rfl, rfl⟩) | ((with_reducible refine (must_no _ _).mono ?_); rintro e w' ⟨rfl, rfl⟩))
        refine ⟨rfl, below_box hb2, .inr ?_⟩
        rw [HR.out, if_neg (by omega), if_pos (by omega)]
        exact ⟨by decide, rfl, rfl⟩
    · have d1 : decide ((ys.length : Int) ≤ 64) = false := by simp; omega
      go_wp2_with (go_at_call 65; refine (must_no _ _).mono ?_; rintro e w' ⟨rfl, rfl⟩)
      refine ⟨rfl, below_box hb2, .inr ?_⟩
      rw [HR.out, if_pos g1]
      exact ⟨by decide, rfl, rfl⟩
end Go.Proofs.YtaifjldpjkabjaaDoor
