/- Contracts of package dyad, part G: Cmp. -/
import Derived.Test.YtaifjldpjkabjaaDoorDyF
namespace Go.Proofs.YtaifjldpjkabjaaDoor
open Go.RowKit Pl
attribute [local go_sem ↓] Go.wp_at_zero Go.wp_at_succ

/-- dyad.Cmp. -/
def cmpD (a b : Dy) : Int :=
  if mayD a = false ∨ mayD b = false then 0
  else if signD a < signD b then -1
  else if signD b < signD a then 1
  else if signD a = 0 then 0
  else signD a * cmpSize a b

theorem signD_cases (d : Dy) : signD d = 0 ∨ signD d = 1 ∨ signD d = -1 := by
  unfold signD
  split
  · exact .inl rfl
  · split
    · exact .inr (.inr rfl)
    · exact .inr (.inl rfl)
theorem cmpN_le (m n : Nat) : -1 ≤ cmpN m n ∧ cmpN m n ≤ 1 := by
  unfold cmpN
  split
  · omega
  · split <;> omega
theorem cmpSize_le (a b : Dy) : -1 ≤ cmpSize a b ∧ cmpSize a b ≤ 1 := by
  unfold cmpSize
  split
  · omega
  · split
    · omega
    · exact cmpN_le _ _

set_option maxRecDepth 100000 in
set_option maxHeartbeats 4000000 in
theorem cmpD_any (u v : Value) (a b : Dy) (w : World) (h : RdD w u a) (k : RdD w v b) :
    Calls Tryd.prog 33 #[u, v] w fun e w' => e = .returned (.int .i64 (cmpD a b)) ∧ Below w.heap.size w w' := by
  have h' := h
  have k' := k
  obtain ⟨A, n, c, rfl, hr, hl, he1, he2⟩ := h
  obtain ⟨B, m, d, rfl, kr, kl, ke1, ke2⟩ := k
  have hb2 : Below w.heap.size w ((w.alloc (.cells #[.bool a.neg, .slice A n c, .int .i64 a.e] 24)).alloc (.cells #[.bool b.neg, .slice B m d, .int .i64 b.e] 24)) := by go_grown
  have hda := h'.below hb2
  have hdb := k'.below hb2
  have hsq : w.heap.size + 1 < ((w.alloc (.cells #[.bool a.neg, .slice A n c, .int .i64 a.e] 24)).alloc (.cells #[.bool b.neg, .slice B m d, .int .i64 b.e] 24)).heap.size := by simp
  have cA0 : ((w.alloc (.cells #[.bool a.neg, .slice A n c, .int .i64 a.e] 24)).alloc (.cells #[.bool b.neg, .slice B m d, .int .i64 b.e] 24)).cell? ⟨w.heap.size, 0, none⟩ = some (.bool a.neg) := by simp [go_sem]
  have cA1 : ((w.alloc (.cells #[.bool a.neg, .slice A n c, .int .i64 a.e] 24)).alloc (.cells #[.bool b.neg, .slice B m d, .int .i64 b.e] 24)).cell? ⟨w.heap.size, 1, none⟩ = some (.slice A n c) := by simp [go_sem]
  have cA2 : ((w.alloc (.cells #[.bool a.neg, .slice A n c, .int .i64 a.e] 24)).alloc (.cells #[.bool b.neg, .slice B m d, .int .i64 b.e] 24)).cell? ⟨w.heap.size, 2, none⟩ = some (.int .i64 a.e) := by simp [go_sem]
  have cB0 : ((w.alloc (.cells #[.bool a.neg, .slice A n c, .int .i64 a.e] 24)).alloc (.cells #[.bool b.neg, .slice B m d, .int .i64 b.e] 24)).cell? ⟨w.heap.size + 1, 0, none⟩ = some (.bool b.neg) := by simp [go_sem]
  have cB1 : ((w.alloc (.cells #[.bool a.neg, .slice A n c, .int .i64 a.e] 24)).alloc (.cells #[.bool b.neg, .slice B m d, .int .i64 b.e] 24)).cell? ⟨w.heap.size + 1, 1, none⟩ = some (.slice B m d) := by simp [go_sem]
  have cB2 : ((w.alloc (.cells #[.bool a.neg, .slice A n c, .int .i64 a.e] 24)).alloc (.cells #[.bool b.neg, .slice B m d, .int .i64 b.e] 24)).cell? ⟨w.heap.size + 1, 2, none⟩ = some (.int .i64 b.e) := by simp [go_sem]
  clear h' k'
  by_cases hMa : mayD a = true
  · by_cases hMb : mayD b = true
    · have hn1 : ¬ (mayD a = false ∨ mayD b = false) := by simp [hMa, hMb]
      rcases Int.lt_trichotomy (signD a) (signD b) with hlt | heq | hgt
      · have hres : Hid (cmpD a b = -1) := by unfold Hid cmpD; rw [if_neg hn1, if_pos hlt]
        have t1 : (signD a != signD b) = true := by rw [bne_iff_ne]; omega
        have t2 : decide (signD a < signD b) = true := by simpa using hlt
        clear hn1
        go_enter Tryd.func33, Tryd.ntmps33
        go_wp2_with fail
        generalize ((w.alloc (.cells #[.bool a.neg, .slice A n c, .int .i64 a.e] 24)).alloc (.cells #[.bool b.neg, .slice B m d, .int .i64 b.e] 24)) = wq at *
        have bda := hda.drew
        have bdb := hdb.drew
        go_region_held3 (fun w' => w'.cell? ⟨w.heap.size, 0, none⟩ = some (.bool a.neg) ∧ w'.cell? ⟨w.heap.size, 1, none⟩ = some (.slice A n c) ∧ w'.cell? ⟨w.heap.size, 2, none⟩ = some (.int .i64 a.e) ∧ w'.cell? ⟨w.heap.size + 1, 0, none⟩ = some (.bool b.neg) ∧ w'.cell? ⟨w.heap.size + 1, 1, none⟩ = some (.slice B m d) ∧ w'.cell? ⟨w.heap.size + 1, 2, none⟩ = some (.int .i64 b.e)) (first | exact ⟨kA0, kA1, kA2, kA3, kA4, kA5⟩ | exact ⟨kB0, kB1, kB2, kB3, kB4, kB5⟩ | go_keep)
          (first
            | (go_at_call 35; (with_reducible refine (signD_any (.agg #[.bool a.neg, .slice A n c, .int .i64 a.e]) a _ ?_).mono ?_); (first | exact k_bda_B | exact bda); rintro e wA ⟨rfl, hbA⟩; have hsA : w.heap.size + 1 < wA.heap.size := Nat.lt_of_lt_of_le (by first | exact hsB | exact hsq) hbA.size; have kA0 := (hbA.cell (p := ⟨w.heap.size, 0, none⟩) (by first | exact Nat.lt_of_le_of_lt (show w.heap.size ≤ w.heap.size + 1 by omega) hsB | exact Nat.lt_of_le_of_lt (show w.heap.size ≤ w.heap.size + 1 by omega) hsq)).trans (by first | exact kB0 | exact cA0); have kA1 := (hbA.cell (p := ⟨w.heap.size, 1, none⟩) (by first | exact Nat.lt_of_le_of_lt (show w.heap.size ≤ w.heap.size + 1 by omega) hsB | exact Nat.lt_of_le_of_lt (show w.heap.size ≤ w.heap.size + 1 by omega) hsq)).trans (by first | exact kB1 | exact cA1); have kA2 := (hbA.cell (p := ⟨w.heap.size, 2, none⟩) (by first | exact Nat.lt_of_le_of_lt (show w.heap.size ≤ w.heap.size + 1 by omega) hsB | exact Nat.lt_of_le_of_lt (show w.heap.size ≤ w.heap.size + 1 by omega) hsq)).trans (by first | exact kB2 | exact cA2); have kA3 := (hbA.cell (p := ⟨w.heap.size + 1, 0, none⟩) (by first | exact Nat.lt_of_le_of_lt (show w.heap.size + 1 ≤ w.heap.size + 1 by omega) hsB | exact Nat.lt_of_le_of_lt (show w.heap.size + 1 ≤ w.heap.size + 1 by omega) hsq)).trans (by first | exact kB3 | exact cB0); have kA4 := (hbA.cell (p := ⟨w.heap.size + 1, 1, none⟩) (by first | exact Nat.lt_of_le_of_lt (show w.heap.size + 1 ≤ w.heap.size + 1 by omega) hsB | exact Nat.lt_of_le_of_lt (show w.heap.size + 1 ≤ w.heap.size + 1 by omega) hsq)).trans (by first | exact kB4 | exact cB1); have kA5 := (hbA.cell (p := ⟨w.heap.size + 1, 2, none⟩) (by first | exact Nat.lt_of_le_of_lt (show w.heap.size + 1 ≤ w.heap.size + 1 by omega) hsB | exact Nat.lt_of_le_of_lt (show w.heap.size + 1 ≤ w.heap.size + 1 by omega) hsq)).trans (by first | exact kB5 | exact cB2); (first | have k_bda_A := k_bda_B.below hbA | have k_bda_A := bda.below hbA); (first | have k_bdb_A := k_bdb_B.below hbA | have k_bdb_A := bdb.below hbA))
            | (go_at_call 35; (with_reducible refine (signD_any (.agg #[.bool b.neg, .slice B m d, .int .i64 b.e]) b _ ?_).mono ?_); (first | exact k_bdb_A | exact bdb); rintro e wB ⟨rfl, hbB⟩; have hsB : w.heap.size + 1 < wB.heap.size := Nat.lt_of_lt_of_le (by first | exact hsA | exact hsq) hbB.size; have kB0 := (hbB.cell (p := ⟨w.heap.size, 0, none⟩) (by first | exact Nat.lt_of_le_of_lt (show w.heap.size ≤ w.heap.size + 1 by omega) hsA | exact Nat.lt_of_le_of_lt (show w.heap.size ≤ w.heap.size + 1 by omega) hsq)).trans (by first | exact kA0 | exact cA0); have kB1 := (hbB.cell (p := ⟨w.heap.size, 1, none⟩) (by first | exact Nat.lt_of_le_of_lt (show w.heap.size ≤ w.heap.size + 1 by omega) hsA | exact Nat.lt_of_le_of_lt (show w.heap.size ≤ w.heap.size + 1 by omega) hsq)).trans (by first | exact kA1 | exact cA1); have kB2 := (hbB.cell (p := ⟨w.heap.size, 2, none⟩) (by first | exact Nat.lt_of_le_of_lt (show w.heap.size ≤ w.heap.size + 1 by omega) hsA | exact Nat.lt_of_le_of_lt (show w.heap.size ≤ w.heap.size + 1 by omega) hsq)).trans (by first | exact kA2 | exact cA2); have kB3 := (hbB.cell (p := ⟨w.heap.size + 1, 0, none⟩) (by first | exact Nat.lt_of_le_of_lt (show w.heap.size + 1 ≤ w.heap.size + 1 by omega) hsA | exact Nat.lt_of_le_of_lt (show w.heap.size + 1 ≤ w.heap.size + 1 by omega) hsq)).trans (by first | exact kA3 | exact cB0); have kB4 := (hbB.cell (p := ⟨w.heap.size + 1, 1, none⟩) (by first | exact Nat.lt_of_le_of_lt (show w.heap.size + 1 ≤ w.heap.size + 1 by omega) hsA | exact Nat.lt_of_le_of_lt (show w.heap.size + 1 ≤ w.heap.size + 1 by omega) hsq)).trans (by first | exact kA4 | exact cB1); have kB5 := (hbB.cell (p := ⟨w.heap.size + 1, 2, none⟩) (by first | exact Nat.lt_of_le_of_lt (show w.heap.size + 1 ≤ w.heap.size + 1 by omega) hsA | exact Nat.lt_of_le_of_lt (show w.heap.size + 1 ≤ w.heap.size + 1 by omega) hsq)).trans (by first | exact kA5 | exact cB2); (first | have k_bda_B := k_bda_A.below hbB | have k_bda_B := bda.below hbB); (first | have k_bdb_B := k_bdb_A.below hbB | have k_bdb_B := bdb.below hbB)))
        all_goals first
          | (have hbF := below_then (below_then hb2.drew hbA) hbB; have f0 := kB0; have f1 := kB1; have f2 := kB2; have f3 := kB3; have f4 := kB4; have f5 := kB5; have fda := k_bda_B; have fdb := k_bdb_B; have hsF := hsB; clear kA0 kA1 kA2 kA3 kA4 kA5 kB0 kB1 kB2 kB3 kB4 kB5 k_bda_A k_bdb_A k_bda_B k_bdb_B hsA hsB hbA hbB bda bdb cA0 cA1 cA2 cB0 cB1 cB2)
          | (have hbF := below_then (below_then hb2.drew hbB) hbA; have f0 := kA0; have f1 := kA1; have f2 := kA2; have f3 := kA3; have f4 := kA4; have f5 := kA5; have fda := k_bda_A; have fdb := k_bdb_A; have hsF := hsA; clear kA0 kA1 kA2 kA3 kA4 kA5 kB0 kB1 kB2 kB3 kB4 kB5 k_bda_A k_bdb_A k_bda_B k_bdb_B hsA hsB hbA hbB bda bdb cA0 cA1 cA2 cB0 cB1 cB2)

        all_goals
          go_wp2_with fail
          refine (mayD_any _ a _ fda).mono ?_
          rw [hMa]
          rintro e w3 ⟨rfl, hb3⟩
          have f0 := (hb3.cell (p := ⟨w.heap.size, 0, none⟩) (Nat.lt_of_succ_lt hsF)).trans f0
          have f1 := (hb3.cell (p := ⟨w.heap.size, 1, none⟩) (Nat.lt_of_succ_lt hsF)).trans f1
          have f2 := (hb3.cell (p := ⟨w.heap.size, 2, none⟩) (Nat.lt_of_succ_lt hsF)).trans f2
          have f3 := (hb3.cell (p := ⟨w.heap.size + 1, 0, none⟩) hsF).trans f3
          have f4 := (hb3.cell (p := ⟨w.heap.size + 1, 1, none⟩) hsF).trans f4
          have f5 := (hb3.cell (p := ⟨w.heap.size + 1, 2, none⟩) hsF).trans f5
          have fda := fda.below hb3
          have fdb := fdb.below hb3
          have hsF := Nat.lt_of_lt_of_le hsF hb3.size
          have hbF := below_then hbF hb3
          clear hb3
          go_wp2_with fail
          refine (mayD_any _ b _ fdb).mono ?_
          rw [hMb]
          rintro e w3 ⟨rfl, hb3⟩
          go_wp2
          go_ret
          exact ⟨ret_int hres.out.symm, below_then hbF hb3⟩
      · have t1 : (signD a != signD b) = false := by rw [heq]; simp
        rcases signD_cases a with hs | hs | hs
        · have hs2 : signD b = 0 := by rw [← heq]; exact hs
          have hres : Hid (cmpD a b = 0) := by unfold Hid cmpD; rw [if_neg hn1, if_neg (by omega), if_neg (by omega), if_pos hs]
          clear hn1 heq
          go_enter Tryd.func33, Tryd.ntmps33
          go_wp2_with fail
          generalize ((w.alloc (.cells #[.bool a.neg, .slice A n c, .int .i64 a.e] 24)).alloc (.cells #[.bool b.neg, .slice B m d, .int .i64 b.e] 24)) = wq at *
          have bda := hda.drew
          have bdb := hdb.drew
          go_region_held3 (fun w' => w'.cell? ⟨w.heap.size, 0, none⟩ = some (.bool a.neg) ∧ w'.cell? ⟨w.heap.size, 1, none⟩ = some (.slice A n c) ∧ w'.cell? ⟨w.heap.size, 2, none⟩ = some (.int .i64 a.e) ∧ w'.cell? ⟨w.heap.size + 1, 0, none⟩ = some (.bool b.neg) ∧ w'.cell? ⟨w.heap.size + 1, 1, none⟩ = some (.slice B m d) ∧ w'.cell? ⟨w.heap.size + 1, 2, none⟩ = some (.int .i64 b.e)) (first | exact ⟨kA0, kA1, kA2, kA3, kA4, kA5⟩ | exact ⟨kB0, kB1, kB2, kB3, kB4, kB5⟩ | go_keep)
            (first
              | (go_at_call 35; (with_reducible refine (signD_any (.agg #[.bool a.neg, .slice A n c, .int .i64 a.e]) a _ ?_).mono ?_); (first | exact k_bda_B | exact bda); rintro e wA ⟨rfl, hbA⟩; have hsA : w.heap.size + 1 < wA.heap.size := Nat.lt_of_lt_of_le (by first | exact hsB | exact hsq) hbA.size; have kA0 := (hbA.cell (p := ⟨w.heap.size, 0, none⟩) (by first | exact Nat.lt_of_le_of_lt (show w.heap.size ≤ w.heap.size + 1 by omega) hsB | exact Nat.lt_of_le_of_lt (show w.heap.size ≤ w.heap.size + 1 by omega) hsq)).trans (by first | exact kB0 | exact cA0); have kA1 := (hbA.cell (p := ⟨w.heap.size, 1, none⟩) (by first | exact Nat.lt_of_le_of_lt (show w.heap.size ≤ w.heap.size + 1 by omega) hsB | exact Nat.lt_of_le_of_lt (show w.heap.size ≤ w.heap.size + 1 by omega) hsq)).trans (by first | exact kB1 | exact cA1); have kA2 := (hbA.cell (p := ⟨w.heap.size, 2, none⟩) (by first | exact Nat.lt_of_le_of_lt (show w.heap.size ≤ w.heap.size + 1 by omega) hsB | exact Nat.lt_of_le_of_lt (show w.heap.size ≤ w.heap.size + 1 by omega) hsq)).trans (by first | exact kB2 | exact cA2); have kA3 := (hbA.cell (p := ⟨w.heap.size + 1, 0, none⟩) (by first | exact Nat.lt_of_le_of_lt (show w.heap.size + 1 ≤ w.heap.size + 1 by omega) hsB | exact Nat.lt_of_le_of_lt (show w.heap.size + 1 ≤ w.heap.size + 1 by omega) hsq)).trans (by first | exact kB3 | exact cB0); have kA4 := (hbA.cell (p := ⟨w.heap.size + 1, 1, none⟩) (by first | exact Nat.lt_of_le_of_lt (show w.heap.size + 1 ≤ w.heap.size + 1 by omega) hsB | exact Nat.lt_of_le_of_lt (show w.heap.size + 1 ≤ w.heap.size + 1 by omega) hsq)).trans (by first | exact kB4 | exact cB1); have kA5 := (hbA.cell (p := ⟨w.heap.size + 1, 2, none⟩) (by first | exact Nat.lt_of_le_of_lt (show w.heap.size + 1 ≤ w.heap.size + 1 by omega) hsB | exact Nat.lt_of_le_of_lt (show w.heap.size + 1 ≤ w.heap.size + 1 by omega) hsq)).trans (by first | exact kB5 | exact cB2); (first | have k_bda_A := k_bda_B.below hbA | have k_bda_A := bda.below hbA); (first | have k_bdb_A := k_bdb_B.below hbA | have k_bdb_A := bdb.below hbA))
              | (go_at_call 35; (with_reducible refine (signD_any (.agg #[.bool b.neg, .slice B m d, .int .i64 b.e]) b _ ?_).mono ?_); (first | exact k_bdb_A | exact bdb); rintro e wB ⟨rfl, hbB⟩; have hsB : w.heap.size + 1 < wB.heap.size := Nat.lt_of_lt_of_le (by first | exact hsA | exact hsq) hbB.size; have kB0 := (hbB.cell (p := ⟨w.heap.size, 0, none⟩) (by first | exact Nat.lt_of_le_of_lt (show w.heap.size ≤ w.heap.size + 1 by omega) hsA | exact Nat.lt_of_le_of_lt (show w.heap.size ≤ w.heap.size + 1 by omega) hsq)).trans (by first | exact kA0 | exact cA0); have kB1 := (hbB.cell (p := ⟨w.heap.size, 1, none⟩) (by first | exact Nat.lt_of_le_of_lt (show w.heap.size ≤ w.heap.size + 1 by omega) hsA | exact Nat.lt_of_le_of_lt (show w.heap.size ≤ w.heap.size + 1 by omega) hsq)).trans (by first | exact kA1 | exact cA1); have kB2 := (hbB.cell (p := ⟨w.heap.size, 2, none⟩) (by first | exact Nat.lt_of_le_of_lt (show w.heap.size ≤ w.heap.size + 1 by omega) hsA | exact Nat.lt_of_le_of_lt (show w.heap.size ≤ w.heap.size + 1 by omega) hsq)).trans (by first | exact kA2 | exact cA2); have kB3 := (hbB.cell (p := ⟨w.heap.size + 1, 0, none⟩) (by first | exact Nat.lt_of_le_of_lt (show w.heap.size + 1 ≤ w.heap.size + 1 by omega) hsA | exact Nat.lt_of_le_of_lt (show w.heap.size + 1 ≤ w.heap.size + 1 by omega) hsq)).trans (by first | exact kA3 | exact cB0); have kB4 := (hbB.cell (p := ⟨w.heap.size + 1, 1, none⟩) (by first | exact Nat.lt_of_le_of_lt (show w.heap.size + 1 ≤ w.heap.size + 1 by omega) hsA | exact Nat.lt_of_le_of_lt (show w.heap.size + 1 ≤ w.heap.size + 1 by omega) hsq)).trans (by first | exact kA4 | exact cB1); have kB5 := (hbB.cell (p := ⟨w.heap.size + 1, 2, none⟩) (by first | exact Nat.lt_of_le_of_lt (show w.heap.size + 1 ≤ w.heap.size + 1 by omega) hsA | exact Nat.lt_of_le_of_lt (show w.heap.size + 1 ≤ w.heap.size + 1 by omega) hsq)).trans (by first | exact kA5 | exact cB2); (first | have k_bda_B := k_bda_A.below hbB | have k_bda_B := bda.below hbB); (first | have k_bdb_B := k_bdb_A.below hbB | have k_bdb_B := bdb.below hbB)))
          all_goals first
            | (have hbF := below_then (below_then hb2.drew hbA) hbB; have f0 := kB0; have f1 := kB1; have f2 := kB2; have f3 := kB3; have f4 := kB4; have f5 := kB5; have fda := k_bda_B; have fdb := k_bdb_B; have hsF := hsB; clear kA0 kA1 kA2 kA3 kA4 kA5 kB0 kB1 kB2 kB3 kB4 kB5 k_bda_A k_bdb_A k_bda_B k_bdb_B hsA hsB hbA hbB bda bdb cA0 cA1 cA2 cB0 cB1 cB2)
            | (have hbF := below_then (below_then hb2.drew hbB) hbA; have f0 := kA0; have f1 := kA1; have f2 := kA2; have f3 := kA3; have f4 := kA4; have f5 := kA5; have fda := k_bda_A; have fdb := k_bdb_A; have hsF := hsA; clear kA0 kA1 kA2 kA3 kA4 kA5 kB0 kB1 kB2 kB3 kB4 kB5 k_bda_A k_bdb_A k_bda_B k_bdb_B hsA hsB hbA hbB bda bdb cA0 cA1 cA2 cB0 cB1 cB2)

          all_goals
            go_wp2_with fail
            refine (mayD_any _ a _ fda).mono ?_
            rw [hMa]
            rintro e w3 ⟨rfl, hb3⟩
            have f0 := (hb3.cell (p := ⟨w.heap.size, 0, none⟩) (Nat.lt_of_succ_lt hsF)).trans f0
            have f1 := (hb3.cell (p := ⟨w.heap.size, 1, none⟩) (Nat.lt_of_succ_lt hsF)).trans f1
            have f2 := (hb3.cell (p := ⟨w.heap.size, 2, none⟩) (Nat.lt_of_succ_lt hsF)).trans f2
            have f3 := (hb3.cell (p := ⟨w.heap.size + 1, 0, none⟩) hsF).trans f3
            have f4 := (hb3.cell (p := ⟨w.heap.size + 1, 1, none⟩) hsF).trans f4
            have f5 := (hb3.cell (p := ⟨w.heap.size + 1, 2, none⟩) hsF).trans f5
            have fda := fda.below hb3
            have fdb := fdb.below hb3
            have hsF := Nat.lt_of_lt_of_le hsF hb3.size
            have hbF := below_then hbF hb3
            clear hb3
            go_wp2_with fail
            refine (mayD_any _ b _ fdb).mono ?_
            rw [hMb]
            rintro e w3 ⟨rfl, hb3⟩
            go_wp2
            go_ret
            exact ⟨ret_int hres.out.symm, below_then hbF hb3⟩
        · have hs2 : signD b = 1 := by rw [← heq]; exact hs
          have hres : Hid (cmpD a b = cmpSize a b) := by unfold Hid cmpD; rw [if_neg hn1, if_neg (by omega), if_neg (by omega), if_neg (by omega), hs]; omega
          have cs := cmpSize_le a b
          obtain ⟨cs1, cs2⟩ := cs
          clear hn1 heq
          go_enter Tryd.func33, Tryd.ntmps33
          go_wp2_with fail
          generalize ((w.alloc (.cells #[.bool a.neg, .slice A n c, .int .i64 a.e] 24)).alloc (.cells #[.bool b.neg, .slice B m d, .int .i64 b.e] 24)) = wq at *
          have bda := hda.drew
          have bdb := hdb.drew
          go_region_held3 (fun w' => w'.cell? ⟨w.heap.size, 0, none⟩ = some (.bool a.neg) ∧ w'.cell? ⟨w.heap.size, 1, none⟩ = some (.slice A n c) ∧ w'.cell? ⟨w.heap.size, 2, none⟩ = some (.int .i64 a.e) ∧ w'.cell? ⟨w.heap.size + 1, 0, none⟩ = some (.bool b.neg) ∧ w'.cell? ⟨w.heap.size + 1, 1, none⟩ = some (.slice B m d) ∧ w'.cell? ⟨w.heap.size + 1, 2, none⟩ = some (.int .i64 b.e)) (first | exact ⟨kA0, kA1, kA2, kA3, kA4, kA5⟩ | exact ⟨kB0, kB1, kB2, kB3, kB4, kB5⟩ | go_keep)
            (first
              | (go_at_call 35; (with_reducible refine (signD_any (.agg #[.bool a.neg, .slice A n c, .int .i64 a.e]) a _ ?_).mono ?_); (first | exact k_bda_B | exact bda); rintro e wA ⟨rfl, hbA⟩; have hsA : w.heap.size + 1 < wA.heap.size := Nat.lt_of_lt_of_le (by first | exact hsB | exact hsq) hbA.size; have kA0 := (hbA.cell (p := ⟨w.heap.size, 0, none⟩) (by first | exact Nat.lt_of_le_of_lt (show w.heap.size ≤ w.heap.size + 1 by omega) hsB | exact Nat.lt_of_le_of_lt (show w.heap.size ≤ w.heap.size + 1 by omega) hsq)).trans (by first | exact kB0 | exact cA0); have kA1 := (hbA.cell (p := ⟨w.heap.size, 1, none⟩) (by first | exact Nat.lt_of_le_of_lt (show w.heap.size ≤ w.heap.size + 1 by omega) hsB | exact Nat.lt_of_le_of_lt (show w.heap.size ≤ w.heap.size + 1 by omega) hsq)).trans (by first | exact kB1 | exact cA1); have kA2 := (hbA.cell (p := ⟨w.heap.size, 2, none⟩) (by first | exact Nat.lt_of_le_of_lt (show w.heap.size ≤ w.heap.size + 1 by omega) hsB | exact Nat.lt_of_le_of_lt (show w.heap.size ≤ w.heap.size + 1 by omega) hsq)).trans (by first | exact kB2 | exact cA2); have kA3 := (hbA.cell (p := ⟨w.heap.size + 1, 0, none⟩) (by first | exact Nat.lt_of_le_of_lt (show w.heap.size + 1 ≤ w.heap.size + 1 by omega) hsB | exact Nat.lt_of_le_of_lt (show w.heap.size + 1 ≤ w.heap.size + 1 by omega) hsq)).trans (by first | exact kB3 | exact cB0); have kA4 := (hbA.cell (p := ⟨w.heap.size + 1, 1, none⟩) (by first | exact Nat.lt_of_le_of_lt (show w.heap.size + 1 ≤ w.heap.size + 1 by omega) hsB | exact Nat.lt_of_le_of_lt (show w.heap.size + 1 ≤ w.heap.size + 1 by omega) hsq)).trans (by first | exact kB4 | exact cB1); have kA5 := (hbA.cell (p := ⟨w.heap.size + 1, 2, none⟩) (by first | exact Nat.lt_of_le_of_lt (show w.heap.size + 1 ≤ w.heap.size + 1 by omega) hsB | exact Nat.lt_of_le_of_lt (show w.heap.size + 1 ≤ w.heap.size + 1 by omega) hsq)).trans (by first | exact kB5 | exact cB2); (first | have k_bda_A := k_bda_B.below hbA | have k_bda_A := bda.below hbA); (first | have k_bdb_A := k_bdb_B.below hbA | have k_bdb_A := bdb.below hbA))
              | (go_at_call 35; (with_reducible refine (signD_any (.agg #[.bool b.neg, .slice B m d, .int .i64 b.e]) b _ ?_).mono ?_); (first | exact k_bdb_A | exact bdb); rintro e wB ⟨rfl, hbB⟩; have hsB : w.heap.size + 1 < wB.heap.size := Nat.lt_of_lt_of_le (by first | exact hsA | exact hsq) hbB.size; have kB0 := (hbB.cell (p := ⟨w.heap.size, 0, none⟩) (by first | exact Nat.lt_of_le_of_lt (show w.heap.size ≤ w.heap.size + 1 by omega) hsA | exact Nat.lt_of_le_of_lt (show w.heap.size ≤ w.heap.size + 1 by omega) hsq)).trans (by first | exact kA0 | exact cA0); have kB1 := (hbB.cell (p := ⟨w.heap.size, 1, none⟩) (by first | exact Nat.lt_of_le_of_lt (show w.heap.size ≤ w.heap.size + 1 by omega) hsA | exact Nat.lt_of_le_of_lt (show w.heap.size ≤ w.heap.size + 1 by omega) hsq)).trans (by first | exact kA1 | exact cA1); have kB2 := (hbB.cell (p := ⟨w.heap.size, 2, none⟩) (by first | exact Nat.lt_of_le_of_lt (show w.heap.size ≤ w.heap.size + 1 by omega) hsA | exact Nat.lt_of_le_of_lt (show w.heap.size ≤ w.heap.size + 1 by omega) hsq)).trans (by first | exact kA2 | exact cA2); have kB3 := (hbB.cell (p := ⟨w.heap.size + 1, 0, none⟩) (by first | exact Nat.lt_of_le_of_lt (show w.heap.size + 1 ≤ w.heap.size + 1 by omega) hsA | exact Nat.lt_of_le_of_lt (show w.heap.size + 1 ≤ w.heap.size + 1 by omega) hsq)).trans (by first | exact kA3 | exact cB0); have kB4 := (hbB.cell (p := ⟨w.heap.size + 1, 1, none⟩) (by first | exact Nat.lt_of_le_of_lt (show w.heap.size + 1 ≤ w.heap.size + 1 by omega) hsA | exact Nat.lt_of_le_of_lt (show w.heap.size + 1 ≤ w.heap.size + 1 by omega) hsq)).trans (by first | exact kA4 | exact cB1); have kB5 := (hbB.cell (p := ⟨w.heap.size + 1, 2, none⟩) (by first | exact Nat.lt_of_le_of_lt (show w.heap.size + 1 ≤ w.heap.size + 1 by omega) hsA | exact Nat.lt_of_le_of_lt (show w.heap.size + 1 ≤ w.heap.size + 1 by omega) hsq)).trans (by first | exact kA5 | exact cB2); (first | have k_bda_B := k_bda_A.below hbB | have k_bda_B := bda.below hbB); (first | have k_bdb_B := k_bdb_A.below hbB | have k_bdb_B := bdb.below hbB)))
          all_goals first
            | (have hbF := below_then (below_then hb2.drew hbA) hbB; have f0 := kB0; have f1 := kB1; have f2 := kB2; have f3 := kB3; have f4 := kB4; have f5 := kB5; have fda := k_bda_B; have fdb := k_bdb_B; have hsF := hsB; clear kA0 kA1 kA2 kA3 kA4 kA5 kB0 kB1 kB2 kB3 kB4 kB5 k_bda_A k_bdb_A k_bda_B k_bdb_B hsA hsB hbA hbB bda bdb cA0 cA1 cA2 cB0 cB1 cB2)
            | (have hbF := below_then (below_then hb2.drew hbB) hbA; have f0 := kA0; have f1 := kA1; have f2 := kA2; have f3 := kA3; have f4 := kA4; have f5 := kA5; have fda := k_bda_A; have fdb := k_bdb_A; have hsF := hsA; clear kA0 kA1 kA2 kA3 kA4 kA5 kB0 kB1 kB2 kB3 kB4 kB5 k_bda_A k_bdb_A k_bda_B k_bdb_B hsA hsB hbA hbB bda bdb cA0 cA1 cA2 cB0 cB1 cB2)

          all_goals
            go_wp2_with fail
            refine (mayD_any _ a _ fda).mono ?_
            rw [hMa]
            rintro e w3 ⟨rfl, hb3⟩
            have f0 := (hb3.cell (p := ⟨w.heap.size, 0, none⟩) (Nat.lt_of_succ_lt hsF)).trans f0
            have f1 := (hb3.cell (p := ⟨w.heap.size, 1, none⟩) (Nat.lt_of_succ_lt hsF)).trans f1
            have f2 := (hb3.cell (p := ⟨w.heap.size, 2, none⟩) (Nat.lt_of_succ_lt hsF)).trans f2
            have f3 := (hb3.cell (p := ⟨w.heap.size + 1, 0, none⟩) hsF).trans f3
            have f4 := (hb3.cell (p := ⟨w.heap.size + 1, 1, none⟩) hsF).trans f4
            have f5 := (hb3.cell (p := ⟨w.heap.size + 1, 2, none⟩) hsF).trans f5
            have fda := fda.below hb3
            have fdb := fdb.below hb3
            have hsF := Nat.lt_of_lt_of_le hsF hb3.size
            have hbF := below_then hbF hb3
            clear hb3
            go_wp2_with fail
            refine (mayD_any _ b _ fdb).mono ?_
            rw [hMb]
            rintro e w3 ⟨rfl, hb3⟩
            have f0 := (hb3.cell (p := ⟨w.heap.size, 0, none⟩) (Nat.lt_of_succ_lt hsF)).trans f0
            have f1 := (hb3.cell (p := ⟨w.heap.size, 1, none⟩) (Nat.lt_of_succ_lt hsF)).trans f1
            have f2 := (hb3.cell (p := ⟨w.heap.size, 2, none⟩) (Nat.lt_of_succ_lt hsF)).trans f2
            have f3 := (hb3.cell (p := ⟨w.heap.size + 1, 0, none⟩) hsF).trans f3
            have f4 := (hb3.cell (p := ⟨w.heap.size + 1, 1, none⟩) hsF).trans f4
            have f5 := (hb3.cell (p := ⟨w.heap.size + 1, 2, none⟩) hsF).trans f5
            have fda := fda.below hb3
            have fdb := fdb.below hb3
            have hsF := Nat.lt_of_lt_of_le hsF hb3.size
            have hbF := below_then hbF hb3
            clear hb3
            go_wp2_with fail
            refine (cmpSize_any _ _ a b _ fda fdb hMa hMb).mono ?_
            rintro e w3 ⟨rfl, hb3⟩
            go_wp2
            go_ret
            exact ⟨ret_int hres.out.symm, below_then hbF hb3⟩
        · have hs2 : signD b = -1 := by rw [← heq]; exact hs
          have hres : Hid (cmpD a b = -cmpSize a b) := by unfold Hid cmpD; rw [if_neg hn1, if_neg (by omega), if_neg (by omega), if_neg (by omega), hs]; omega
          have cs := cmpSize_le a b
          obtain ⟨cs1, cs2⟩ := cs
          clear hn1 heq
          go_enter Tryd.func33, Tryd.ntmps33
          go_wp2_with fail
          generalize ((w.alloc (.cells #[.bool a.neg, .slice A n c, .int .i64 a.e] 24)).alloc (.cells #[.bool b.neg, .slice B m d, .int .i64 b.e] 24)) = wq at *
          have bda := hda.drew
          have bdb := hdb.drew
          go_region_held3 (fun w' => w'.cell? ⟨w.heap.size, 0, none⟩ = some (.bool a.neg) ∧ w'.cell? ⟨w.heap.size, 1, none⟩ = some (.slice A n c) ∧ w'.cell? ⟨w.heap.size, 2, none⟩ = some (.int .i64 a.e) ∧ w'.cell? ⟨w.heap.size + 1, 0, none⟩ = some (.bool b.neg) ∧ w'.cell? ⟨w.heap.size + 1, 1, none⟩ = some (.slice B m d) ∧ w'.cell? ⟨w.heap.size + 1, 2, none⟩ = some (.int .i64 b.e)) (first | exact ⟨kA0, kA1, kA2, kA3, kA4, kA5⟩ | exact ⟨kB0, kB1, kB2, kB3, kB4, kB5⟩ | go_keep)
            (first
              | (go_at_call 35; (with_reducible refine (signD_any (.agg #[.bool a.neg, .slice A n c, .int .i64 a.e]) a _ ?_).mono ?_); (first | exact k_bda_B | exact bda); rintro e wA ⟨rfl, hbA⟩; have hsA : w.heap.size + 1 < wA.heap.size := Nat.lt_of_lt_of_le (by first | exact hsB | exact hsq) hbA.size; have kA0 := (hbA.cell (p := ⟨w.heap.size, 0, none⟩) (by first | exact Nat.lt_of_le_of_lt (show w.heap.size ≤ w.heap.size + 1 by omega) hsB | exact Nat.lt_of_le_of_lt (show w.heap.size ≤ w.heap.size + 1 by omega) hsq)).trans (by first | exact kB0 | exact cA0); have kA1 := (hbA.cell (p := ⟨w.heap.size, 1, none⟩) (by first | exact Nat.lt_of_le_of_lt (show w.heap.size ≤ w.heap.size + 1 by omega) hsB | exact Nat.lt_of_le_of_lt (show w.heap.size ≤ w.heap.size + 1 by omega) hsq)).trans (by first | exact kB1 | exact cA1); have kA2 := (hbA.cell (p := ⟨w.heap.size, 2, none⟩) (by first | exact Nat.lt_of_le_of_lt (show w.heap.size ≤ w.heap.size + 1 by omega) hsB | exact Nat.lt_of_le_of_lt (show w.heap.size ≤ w.heap.size + 1 by omega) hsq)).trans (by first | exact kB2 | exact cA2); have kA3 := (hbA.cell (p := ⟨w.heap.size + 1, 0, none⟩) (by first | exact Nat.lt_of_le_of_lt (show w.heap.size + 1 ≤ w.heap.size + 1 by omega) hsB | exact Nat.lt_of_le_of_lt (show w.heap.size + 1 ≤ w.heap.size + 1 by omega) hsq)).trans (by first | exact kB3 | exact cB0); have kA4 := (hbA.cell (p := ⟨w.heap.size + 1, 1, none⟩) (by first | exact Nat.lt_of_le_of_lt (show w.heap.size + 1 ≤ w.heap.size + 1 by omega) hsB | exact Nat.lt_of_le_of_lt (show w.heap.size + 1 ≤ w.heap.size + 1 by omega) hsq)).trans (by first | exact kB4 | exact cB1); have kA5 := (hbA.cell (p := ⟨w.heap.size + 1, 2, none⟩) (by first | exact Nat.lt_of_le_of_lt (show w.heap.size + 1 ≤ w.heap.size + 1 by omega) hsB | exact Nat.lt_of_le_of_lt (show w.heap.size + 1 ≤ w.heap.size + 1 by omega) hsq)).trans (by first | exact kB5 | exact cB2); (first | have k_bda_A := k_bda_B.below hbA | have k_bda_A := bda.below hbA); (first | have k_bdb_A := k_bdb_B.below hbA | have k_bdb_A := bdb.below hbA))
              | (go_at_call 35; (with_reducible refine (signD_any (.agg #[.bool b.neg, .slice B m d, .int .i64 b.e]) b _ ?_).mono ?_); (first | exact k_bdb_A | exact bdb); rintro e wB ⟨rfl, hbB⟩; have hsB : w.heap.size + 1 < wB.heap.size := Nat.lt_of_lt_of_le (by first | exact hsA | exact hsq) hbB.size; have kB0 := (hbB.cell (p := ⟨w.heap.size, 0, none⟩) (by first | exact Nat.lt_of_le_of_lt (show w.heap.size ≤ w.heap.size + 1 by omega) hsA | exact Nat.lt_of_le_of_lt (show w.heap.size ≤ w.heap.size + 1 by omega) hsq)).trans (by first | exact kA0 | exact cA0); have kB1 := (hbB.cell (p := ⟨w.heap.size, 1, none⟩) (by first | exact Nat.lt_of_le_of_lt (show w.heap.size ≤ w.heap.size + 1 by omega) hsA | exact Nat.lt_of_le_of_lt (show w.heap.size ≤ w.heap.size + 1 by omega) hsq)).trans (by first | exact kA1 | exact cA1); have kB2 := (hbB.cell (p := ⟨w.heap.size, 2, none⟩) (by first | exact Nat.lt_of_le_of_lt (show w.heap.size ≤ w.heap.size + 1 by omega) hsA | exact Nat.lt_of_le_of_lt (show w.heap.size ≤ w.heap.size + 1 by omega) hsq)).trans (by first | exact kA2 | exact cA2); have kB3 := (hbB.cell (p := ⟨w.heap.size + 1, 0, none⟩) (by first | exact Nat.lt_of_le_of_lt (show w.heap.size + 1 ≤ w.heap.size + 1 by omega) hsA | exact Nat.lt_of_le_of_lt (show w.heap.size + 1 ≤ w.heap.size + 1 by omega) hsq)).trans (by first | exact kA3 | exact cB0); have kB4 := (hbB.cell (p := ⟨w.heap.size + 1, 1, none⟩) (by first | exact Nat.lt_of_le_of_lt (show w.heap.size + 1 ≤ w.heap.size + 1 by omega) hsA | exact Nat.lt_of_le_of_lt (show w.heap.size + 1 ≤ w.heap.size + 1 by omega) hsq)).trans (by first | exact kA4 | exact cB1); have kB5 := (hbB.cell (p := ⟨w.heap.size + 1, 2, none⟩) (by first | exact Nat.lt_of_le_of_lt (show w.heap.size + 1 ≤ w.heap.size + 1 by omega) hsA | exact Nat.lt_of_le_of_lt (show w.heap.size + 1 ≤ w.heap.size + 1 by omega) hsq)).trans (by first | exact kA5 | exact cB2); (first | have k_bda_B := k_bda_A.below hbB | have k_bda_B := bda.below hbB); (first | have k_bdb_B := k_bdb_A.below hbB | have k_bdb_B := bdb.below hbB)))
          all_goals first
            | (have hbF := below_then (below_then hb2.drew hbA) hbB; have f0 := kB0; have f1 := kB1; have f2 := kB2; have f3 := kB3; have f4 := kB4; have f5 := kB5; have fda := k_bda_B; have fdb := k_bdb_B; have hsF := hsB; clear kA0 kA1 kA2 kA3 kA4 kA5 kB0 kB1 kB2 kB3 kB4 kB5 k_bda_A k_bdb_A k_bda_B k_bdb_B hsA hsB hbA hbB bda bdb cA0 cA1 cA2 cB0 cB1 cB2)
            | (have hbF := below_then (below_then hb2.drew hbB) hbA; have f0 := kA0; have f1 := kA1; have f2 := kA2; have f3 := kA3; have f4 := kA4; have f5 := kA5; have fda := k_bda_A; have fdb := k_bdb_A; have hsF := hsA; clear kA0 kA1 kA2 kA3 kA4 kA5 kB0 kB1 kB2 kB3 kB4 kB5 k_bda_A k_bdb_A k_bda_B k_bdb_B hsA hsB hbA hbB bda bdb cA0 cA1 cA2 cB0 cB1 cB2)

          all_goals
            go_wp2_with fail
            refine (mayD_any _ a _ fda).mono ?_
            rw [hMa]
            rintro e w3 ⟨rfl, hb3⟩
            have f0 := (hb3.cell (p := ⟨w.heap.size, 0, none⟩) (Nat.lt_of_succ_lt hsF)).trans f0
            have f1 := (hb3.cell (p := ⟨w.heap.size, 1, none⟩) (Nat.lt_of_succ_lt hsF)).trans f1
            have f2 := (hb3.cell (p := ⟨w.heap.size, 2, none⟩) (Nat.lt_of_succ_lt hsF)).trans f2
            have f3 := (hb3.cell (p := ⟨w.heap.size + 1, 0, none⟩) hsF).trans f3
            have f4 := (hb3.cell (p := ⟨w.heap.size + 1, 1, none⟩) hsF).trans f4
            have f5 := (hb3.cell (p := ⟨w.heap.size + 1, 2, none⟩) hsF).trans f5
            have fda := fda.below hb3
            have fdb := fdb.below hb3
            have hsF := Nat.lt_of_lt_of_le hsF hb3.size
            have hbF := below_then hbF hb3
            clear hb3
            go_wp2_with fail
            refine (mayD_any _ b _ fdb).mono ?_
            rw [hMb]
            rintro e w3 ⟨rfl, hb3⟩
            have f0 := (hb3.cell (p := ⟨w.heap.size, 0, none⟩) (Nat.lt_of_succ_lt hsF)).trans f0
            have f1 := (hb3.cell (p := ⟨w.heap.size, 1, none⟩) (Nat.lt_of_succ_lt hsF)).trans f1
            have f2 := (hb3.cell (p := ⟨w.heap.size, 2, none⟩) (Nat.lt_of_succ_lt hsF)).trans f2
            have f3 := (hb3.cell (p := ⟨w.heap.size + 1, 0, none⟩) hsF).trans f3
            have f4 := (hb3.cell (p := ⟨w.heap.size + 1, 1, none⟩) hsF).trans f4
            have f5 := (hb3.cell (p := ⟨w.heap.size + 1, 2, none⟩) hsF).trans f5
            have fda := fda.below hb3
            have fdb := fdb.below hb3
            have hsF := Nat.lt_of_lt_of_le hsF hb3.size
            have hbF := below_then hbF hb3
            clear hb3
            go_wp2_with fail
            refine (cmpSize_any _ _ a b _ fda fdb hMa hMb).mono ?_
            rintro e w3 ⟨rfl, hb3⟩
            go_wp2
            go_ret
            exact ⟨ret_int hres.out.symm, below_then hbF hb3⟩
      · have hres : Hid (cmpD a b = 1) := by unfold Hid cmpD; rw [if_neg hn1, if_neg (by omega), if_pos hgt]
        have t1 : (signD a != signD b) = true := by rw [bne_iff_ne]; omega
        have t2 : decide (signD a < signD b) = false := by simp; omega
        clear hn1
        go_enter Tryd.func33, Tryd.ntmps33
        go_wp2_with fail
        generalize ((w.alloc (.cells #[.bool a.neg, .slice A n c, .int .i64 a.e] 24)).alloc (.cells #[.bool b.neg, .slice B m d, .int .i64 b.e] 24)) = wq at *
        have bda := hda.drew
        have bdb := hdb.drew
        go_region_held3 (fun w' => w'.cell? ⟨w.heap.size, 0, none⟩ = some (.bool a.neg) ∧ w'.cell? ⟨w.heap.size, 1, none⟩ = some (.slice A n c) ∧ w'.cell? ⟨w.heap.size, 2, none⟩ = some (.int .i64 a.e) ∧ w'.cell? ⟨w.heap.size + 1, 0, none⟩ = some (.bool b.neg) ∧ w'.cell? ⟨w.heap.size + 1, 1, none⟩ = some (.slice B m d) ∧ w'.cell? ⟨w.heap.size + 1, 2, none⟩ = some (.int .i64 b.e)) (first | exact ⟨kA0, kA1, kA2, kA3, kA4, kA5⟩ | exact ⟨kB0, kB1, kB2, kB3, kB4, kB5⟩ | go_keep)
          (first
            | (go_at_call 35; (with_reducible refine (signD_any (.agg #[.bool a.neg, .slice A n c, .int .i64 a.e]) a _ ?_).mono ?_); (first | exact k_bda_B | exact bda); rintro e wA ⟨rfl, hbA⟩; have hsA : w.heap.size + 1 < wA.heap.size := Nat.lt_of_lt_of_le (by first | exact hsB | exact hsq) hbA.size; have kA0 := (hbA.cell (p := ⟨w.heap.size, 0, none⟩) (by first | exact Nat.lt_of_le_of_lt (show w.heap.size ≤ w.heap.size + 1 by omega) hsB | exact Nat.lt_of_le_of_lt (show w.heap.size ≤ w.heap.size + 1 by omega) hsq)).trans (by first | exact kB0 | exact cA0); have kA1 := (hbA.cell (p := ⟨w.heap.size, 1, none⟩) (by first | exact Nat.lt_of_le_of_lt (show w.heap.size ≤ w.heap.size + 1 by omega) hsB | exact Nat.lt_of_le_of_lt (show w.heap.size ≤ w.heap.size + 1 by omega) hsq)).trans (by first | exact kB1 | exact cA1); have kA2 := (hbA.cell (p := ⟨w.heap.size, 2, none⟩) (by first | exact Nat.lt_of_le_of_lt (show w.heap.size ≤ w.heap.size + 1 by omega) hsB | exact Nat.lt_of_le_of_lt (show w.heap.size ≤ w.heap.size + 1 by omega) hsq)).trans (by first | exact kB2 | exact cA2); have kA3 := (hbA.cell (p := ⟨w.heap.size + 1, 0, none⟩) (by first | exact Nat.lt_of_le_of_lt (show w.heap.size + 1 ≤ w.heap.size + 1 by omega) hsB | exact Nat.lt_of_le_of_lt (show w.heap.size + 1 ≤ w.heap.size + 1 by omega) hsq)).trans (by first | exact kB3 | exact cB0); have kA4 := (hbA.cell (p := ⟨w.heap.size + 1, 1, none⟩) (by first | exact Nat.lt_of_le_of_lt (show w.heap.size + 1 ≤ w.heap.size + 1 by omega) hsB | exact Nat.lt_of_le_of_lt (show w.heap.size + 1 ≤ w.heap.size + 1 by omega) hsq)).trans (by first | exact kB4 | exact cB1); have kA5 := (hbA.cell (p := ⟨w.heap.size + 1, 2, none⟩) (by first | exact Nat.lt_of_le_of_lt (show w.heap.size + 1 ≤ w.heap.size + 1 by omega) hsB | exact Nat.lt_of_le_of_lt (show w.heap.size + 1 ≤ w.heap.size + 1 by omega) hsq)).trans (by first | exact kB5 | exact cB2); (first | have k_bda_A := k_bda_B.below hbA | have k_bda_A := bda.below hbA); (first | have k_bdb_A := k_bdb_B.below hbA | have k_bdb_A := bdb.below hbA))
            | (go_at_call 35; (with_reducible refine (signD_any (.agg #[.bool b.neg, .slice B m d, .int .i64 b.e]) b _ ?_).mono ?_); (first | exact k_bdb_A | exact bdb); rintro e wB ⟨rfl, hbB⟩; have hsB : w.heap.size + 1 < wB.heap.size := Nat.lt_of_lt_of_le (by first | exact hsA | exact hsq) hbB.size; have kB0 := (hbB.cell (p := ⟨w.heap.size, 0, none⟩) (by first | exact Nat.lt_of_le_of_lt (show w.heap.size ≤ w.heap.size + 1 by omega) hsA | exact Nat.lt_of_le_of_lt (show w.heap.size ≤ w.heap.size + 1 by omega) hsq)).trans (by first | exact kA0 | exact cA0); have kB1 := (hbB.cell (p := ⟨w.heap.size, 1, none⟩) (by first | exact Nat.lt_of_le_of_lt (show w.heap.size ≤ w.heap.size + 1 by omega) hsA | exact Nat.lt_of_le_of_lt (show w.heap.size ≤ w.heap.size + 1 by omega) hsq)).trans (by first | exact kA1 | exact cA1); have kB2 := (hbB.cell (p := ⟨w.heap.size, 2, none⟩) (by first | exact Nat.lt_of_le_of_lt (show w.heap.size ≤ w.heap.size + 1 by omega) hsA | exact Nat.lt_of_le_of_lt (show w.heap.size ≤ w.heap.size + 1 by omega) hsq)).trans (by first | exact kA2 | exact cA2); have kB3 := (hbB.cell (p := ⟨w.heap.size + 1, 0, none⟩) (by first | exact Nat.lt_of_le_of_lt (show w.heap.size + 1 ≤ w.heap.size + 1 by omega) hsA | exact Nat.lt_of_le_of_lt (show w.heap.size + 1 ≤ w.heap.size + 1 by omega) hsq)).trans (by first | exact kA3 | exact cB0); have kB4 := (hbB.cell (p := ⟨w.heap.size + 1, 1, none⟩) (by first | exact Nat.lt_of_le_of_lt (show w.heap.size + 1 ≤ w.heap.size + 1 by omega) hsA | exact Nat.lt_of_le_of_lt (show w.heap.size + 1 ≤ w.heap.size + 1 by omega) hsq)).trans (by first | exact kA4 | exact cB1); have kB5 := (hbB.cell (p := ⟨w.heap.size + 1, 2, none⟩) (by first | exact Nat.lt_of_le_of_lt (show w.heap.size + 1 ≤ w.heap.size + 1 by omega) hsA | exact Nat.lt_of_le_of_lt (show w.heap.size + 1 ≤ w.heap.size + 1 by omega) hsq)).trans (by first | exact kA5 | exact cB2); (first | have k_bda_B := k_bda_A.below hbB | have k_bda_B := bda.below hbB); (first | have k_bdb_B := k_bdb_A.below hbB | have k_bdb_B := bdb.below hbB)))
        all_goals first
          | (have hbF := below_then (below_then hb2.drew hbA) hbB; have f0 := kB0; have f1 := kB1; have f2 := kB2; have f3 := kB3; have f4 := kB4; have f5 := kB5; have fda := k_bda_B; have fdb := k_bdb_B; have hsF := hsB; clear kA0 kA1 kA2 kA3 kA4 kA5 kB0 kB1 kB2 kB3 kB4 kB5 k_bda_A k_bdb_A k_bda_B k_bdb_B hsA hsB hbA hbB bda bdb cA0 cA1 cA2 cB0 cB1 cB2)
          | (have hbF := below_then (below_then hb2.drew hbB) hbA; have f0 := kA0; have f1 := kA1; have f2 := kA2; have f3 := kA3; have f4 := kA4; have f5 := kA5; have fda := k_bda_A; have fdb := k_bdb_A; have hsF := hsA; clear kA0 kA1 kA2 kA3 kA4 kA5 kB0 kB1 kB2 kB3 kB4 kB5 k_bda_A k_bdb_A k_bda_B k_bdb_B hsA hsB hbA hbB bda bdb cA0 cA1 cA2 cB0 cB1 cB2)

        all_goals
          go_wp2_with fail
          refine (mayD_any _ a _ fda).mono ?_
          rw [hMa]
          rintro e w3 ⟨rfl, hb3⟩
          have f0 := (hb3.cell (p := ⟨w.heap.size, 0, none⟩) (Nat.lt_of_succ_lt hsF)).trans f0
          have f1 := (hb3.cell (p := ⟨w.heap.size, 1, none⟩) (Nat.lt_of_succ_lt hsF)).trans f1
          have f2 := (hb3.cell (p := ⟨w.heap.size, 2, none⟩) (Nat.lt_of_succ_lt hsF)).trans f2
          have f3 := (hb3.cell (p := ⟨w.heap.size + 1, 0, none⟩) hsF).trans f3
          have f4 := (hb3.cell (p := ⟨w.heap.size + 1, 1, none⟩) hsF).trans f4
          have f5 := (hb3.cell (p := ⟨w.heap.size + 1, 2, none⟩) hsF).trans f5
          have fda := fda.below hb3
          have fdb := fdb.below hb3
          have hsF := Nat.lt_of_lt_of_le hsF hb3.size
          have hbF := below_then hbF hb3
          clear hb3
          go_wp2_with fail
          refine (mayD_any _ b _ fdb).mono ?_
          rw [hMb]
          rintro e w3 ⟨rfl, hb3⟩
          go_wp2
          go_ret
          exact ⟨ret_int hres.out.symm, below_then hbF hb3⟩
    · have hM' : mayD b = false := by simpa using hMb
      have hres : Hid (cmpD a b = 0) := by unfold Hid cmpD; rw [if_pos (.inr hM')]
      clear hMb
      go_enter Tryd.func33, Tryd.ntmps33
      go_wp2_with fail
      generalize ((w.alloc (.cells #[.bool a.neg, .slice A n c, .int .i64 a.e] 24)).alloc (.cells #[.bool b.neg, .slice B m d, .int .i64 b.e] 24)) = wq at *
      have bda := hda.drew
      have bdb := hdb.drew
      go_region_held3 (fun w' => w'.cell? ⟨w.heap.size, 0, none⟩ = some (.bool a.neg) ∧ w'.cell? ⟨w.heap.size, 1, none⟩ = some (.slice A n c) ∧ w'.cell? ⟨w.heap.size, 2, none⟩ = some (.int .i64 a.e) ∧ w'.cell? ⟨w.heap.size + 1, 0, none⟩ = some (.bool b.neg) ∧ w'.cell? ⟨w.heap.size + 1, 1, none⟩ = some (.slice B m d) ∧ w'.cell? ⟨w.heap.size + 1, 2, none⟩ = some (.int .i64 b.e)) (first | exact ⟨kA0, kA1, kA2, kA3, kA4, kA5⟩ | exact ⟨kB0, kB1, kB2, kB3, kB4, kB5⟩ | go_keep)
        (first
          | (go_at_call 35; (with_reducible refine (signD_any (.agg #[.bool a.neg, .slice A n c, .int .i64 a.e]) a _ ?_).mono ?_); (first | exact k_bda_B | exact bda); rintro e wA ⟨rfl, hbA⟩; have hsA : w.heap.size + 1 < wA.heap.size := Nat.lt_of_lt_of_le (by first | exact hsB | exact hsq) hbA.size; have kA0 := (hbA.cell (p := ⟨w.heap.size, 0, none⟩) (by first | exact Nat.lt_of_le_of_lt (show w.heap.size ≤ w.heap.size + 1 by omega) hsB | exact Nat.lt_of_le_of_lt (show w.heap.size ≤ w.heap.size + 1 by omega) hsq)).trans (by first | exact kB0 | exact cA0); have kA1 := (hbA.cell (p := ⟨w.heap.size, 1, none⟩) (by first | exact Nat.lt_of_le_of_lt (show w.heap.size ≤ w.heap.size + 1 by omega) hsB | exact Nat.lt_of_le_of_lt (show w.heap.size ≤ w.heap.size + 1 by omega) hsq)).trans (by first | exact kB1 | exact cA1); have kA2 := (hbA.cell (p := ⟨w.heap.size, 2, none⟩) (by first | exact Nat.lt_of_le_of_lt (show w.heap.size ≤ w.heap.size + 1 by omega) hsB | exact Nat.lt_of_le_of_lt (show w.heap.size ≤ w.heap.size + 1 by omega) hsq)).trans (by first | exact kB2 | exact cA2); have kA3 := (hbA.cell (p := ⟨w.heap.size + 1, 0, none⟩) (by first | exact Nat.lt_of_le_of_lt (show w.heap.size + 1 ≤ w.heap.size + 1 by omega) hsB | exact Nat.lt_of_le_of_lt (show w.heap.size + 1 ≤ w.heap.size + 1 by omega) hsq)).trans (by first | exact kB3 | exact cB0); have kA4 := (hbA.cell (p := ⟨w.heap.size + 1, 1, none⟩) (by first | exact Nat.lt_of_le_of_lt (show w.heap.size + 1 ≤ w.heap.size + 1 by omega) hsB | exact Nat.lt_of_le_of_lt (show w.heap.size + 1 ≤ w.heap.size + 1 by omega) hsq)).trans (by first | exact kB4 | exact cB1); have kA5 := (hbA.cell (p := ⟨w.heap.size + 1, 2, none⟩) (by first | exact Nat.lt_of_le_of_lt (show w.heap.size + 1 ≤ w.heap.size + 1 by omega) hsB | exact Nat.lt_of_le_of_lt (show w.heap.size + 1 ≤ w.heap.size + 1 by omega) hsq)).trans (by first | exact kB5 | exact cB2); (first | have k_bda_A := k_bda_B.below hbA | have k_bda_A := bda.below hbA); (first | have k_bdb_A := k_bdb_B.below hbA | have k_bdb_A := bdb.below hbA))
          | (go_at_call 35; (with_reducible refine (signD_any (.agg #[.bool b.neg, .slice B m d, .int .i64 b.e]) b _ ?_).mono ?_); (first | exact k_bdb_A | exact bdb); rintro e wB ⟨rfl, hbB⟩; have hsB : w.heap.size + 1 < wB.heap.size := Nat.lt_of_lt_of_le (by first | exact hsA | exact hsq) hbB.size; have kB0 := (hbB.cell (p := ⟨w.heap.size, 0, none⟩) (by first | exact Nat.lt_of_le_of_lt (show w.heap.size ≤ w.heap.size + 1 by omega) hsA | exact Nat.lt_of_le_of_lt (show w.heap.size ≤ w.heap.size + 1 by omega) hsq)).trans (by first | exact kA0 | exact cA0); have kB1 := (hbB.cell (p := ⟨w.heap.size, 1, none⟩) (by first | exact Nat.lt_of_le_of_lt (show w.heap.size ≤ w.heap.size + 1 by omega) hsA | exact Nat.lt_of_le_of_lt (show w.heap.size ≤ w.heap.size + 1 by omega) hsq)).trans (by first | exact kA1 | exact cA1); have kB2 := (hbB.cell (p := ⟨w.heap.size, 2, none⟩) (by first | exact Nat.lt_of_le_of_lt (show w.heap.size ≤ w.heap.size + 1 by omega) hsA | exact Nat.lt_of_le_of_lt (show w.heap.size ≤ w.heap.size + 1 by omega) hsq)).trans (by first | exact kA2 | exact cA2); have kB3 := (hbB.cell (p := ⟨w.heap.size + 1, 0, none⟩) (by first | exact Nat.lt_of_le_of_lt (show w.heap.size + 1 ≤ w.heap.size + 1 by omega) hsA | exact Nat.lt_of_le_of_lt (show w.heap.size + 1 ≤ w.heap.size + 1 by omega) hsq)).trans (by first | exact kA3 | exact cB0); have kB4 := (hbB.cell (p := ⟨w.heap.size + 1, 1, none⟩) (by first | exact Nat.lt_of_le_of_lt (show w.heap.size + 1 ≤ w.heap.size + 1 by omega) hsA | exact Nat.lt_of_le_of_lt (show w.heap.size + 1 ≤ w.heap.size + 1 by omega) hsq)).trans (by first | exact kA4 | exact cB1); have kB5 := (hbB.cell (p := ⟨w.heap.size + 1, 2, none⟩) (by first | exact Nat.lt_of_le_of_lt (show w.heap.size + 1 ≤ w.heap.size + 1 by omega) hsA | exact Nat.lt_of_le_of_lt (show w.heap.size + 1 ≤ w.heap.size + 1 by omega) hsq)).trans (by first | exact kA5 | exact cB2); (first | have k_bda_B := k_bda_A.below hbB | have k_bda_B := bda.below hbB); (first | have k_bdb_B := k_bdb_A.below hbB | have k_bdb_B := bdb.below hbB)))
      all_goals first
        | (have hbF := below_then (below_then hb2.drew hbA) hbB; have f0 := kB0; have f1 := kB1; have f2 := kB2; have f3 := kB3; have f4 := kB4; have f5 := kB5; have fda := k_bda_B; have fdb := k_bdb_B; have hsF := hsB; clear kA0 kA1 kA2 kA3 kA4 kA5 kB0 kB1 kB2 kB3 kB4 kB5 k_bda_A k_bdb_A k_bda_B k_bdb_B hsA hsB hbA hbB bda bdb cA0 cA1 cA2 cB0 cB1 cB2)
        | (have hbF := below_then (below_then hb2.drew hbB) hbA; have f0 := kA0; have f1 := kA1; have f2 := kA2; have f3 := kA3; have f4 := kA4; have f5 := kA5; have fda := k_bda_A; have fdb := k_bdb_A; have hsF := hsA; clear kA0 kA1 kA2 kA3 kA4 kA5 kB0 kB1 kB2 kB3 kB4 kB5 k_bda_A k_bdb_A k_bda_B k_bdb_B hsA hsB hbA hbB bda bdb cA0 cA1 cA2 cB0 cB1 cB2)

      all_goals
        go_wp2_with fail
        refine (mayD_any _ a _ fda).mono ?_
        rw [hMa]
        rintro e w3 ⟨rfl, hb3⟩
        have f0 := (hb3.cell (p := ⟨w.heap.size, 0, none⟩) (Nat.lt_of_succ_lt hsF)).trans f0
        have f1 := (hb3.cell (p := ⟨w.heap.size, 1, none⟩) (Nat.lt_of_succ_lt hsF)).trans f1
        have f2 := (hb3.cell (p := ⟨w.heap.size, 2, none⟩) (Nat.lt_of_succ_lt hsF)).trans f2
        have f3 := (hb3.cell (p := ⟨w.heap.size + 1, 0, none⟩) hsF).trans f3
        have f4 := (hb3.cell (p := ⟨w.heap.size + 1, 1, none⟩) hsF).trans f4
        have f5 := (hb3.cell (p := ⟨w.heap.size + 1, 2, none⟩) hsF).trans f5
        have fda := fda.below hb3
        have fdb := fdb.below hb3
        have hsF := Nat.lt_of_lt_of_le hsF hb3.size
        have hbF := below_then hbF hb3
        clear hb3
        go_wp2_with fail
        refine (mayD_any _ b _ fdb).mono ?_
        rw [hM']
        rintro e w3 ⟨rfl, hb3⟩
        go_wp2
        go_ret
        exact ⟨ret_int hres.out.symm, below_then hbF hb3⟩
  · have hM' : mayD a = false := by simpa using hMa
    have hres : Hid (cmpD a b = 0) := by unfold Hid cmpD; rw [if_pos (.inl hM')]
    clear hMa
    go_enter Tryd.func33, Tryd.ntmps33
    go_wp2_with fail
    generalize ((w.alloc (.cells #[.bool a.neg, .slice A n c, .int .i64 a.e] 24)).alloc (.cells #[.bool b.neg, .slice B m d, .int .i64 b.e] 24)) = wq at *
    have bda := hda.drew
    have bdb := hdb.drew
    go_region_held3 (fun w' => w'.cell? ⟨w.heap.size, 0, none⟩ = some (.bool a.neg) ∧ w'.cell? ⟨w.heap.size, 1, none⟩ = some (.slice A n c) ∧ w'.cell? ⟨w.heap.size, 2, none⟩ = some (.int .i64 a.e) ∧ w'.cell? ⟨w.heap.size + 1, 0, none⟩ = some (.bool b.neg) ∧ w'.cell? ⟨w.heap.size + 1, 1, none⟩ = some (.slice B m d) ∧ w'.cell? ⟨w.heap.size + 1, 2, none⟩ = some (.int .i64 b.e)) (first | exact ⟨kA0, kA1, kA2, kA3, kA4, kA5⟩ | exact ⟨kB0, kB1, kB2, kB3, kB4, kB5⟩ | go_keep)
      (first
        | (go_at_call 35; (with_reducible refine (signD_any (.agg #[.bool a.neg, .slice A n c, .int .i64 a.e]) a _ ?_).mono ?_); (first | exact k_bda_B | exact bda); rintro e wA ⟨rfl, hbA⟩; have hsA : w.heap.size + 1 < wA.heap.size := Nat.lt_of_lt_of_le (by first | exact hsB | exact hsq) hbA.size; have kA0 := (hbA.cell (p := ⟨w.heap.size, 0, none⟩) (by first | exact Nat.lt_of_le_of_lt (show w.heap.size ≤ w.heap.size + 1 by omega) hsB | exact Nat.lt_of_le_of_lt (show w.heap.size ≤ w.heap.size + 1 by omega) hsq)).trans (by first | exact kB0 | exact cA0); have kA1 := (hbA.cell (p := ⟨w.heap.size, 1, none⟩) (by first | exact Nat.lt_of_le_of_lt (show w.heap.size ≤ w.heap.size + 1 by omega) hsB | exact Nat.lt_of_le_of_lt (show w.heap.size ≤ w.heap.size + 1 by omega) hsq)).trans (by first | exact kB1 | exact cA1); have kA2 := (hbA.cell (p := ⟨w.heap.size, 2, none⟩) (by first | exact Nat.lt_of_le_of_lt (show w.heap.size ≤ w.heap.size + 1 by omega) hsB | exact Nat.lt_of_le_of_lt (show w.heap.size ≤ w.heap.size + 1 by omega) hsq)).trans (by first | exact kB2 | exact cA2); have kA3 := (hbA.cell (p := ⟨w.heap.size + 1, 0, none⟩) (by first | exact Nat.lt_of_le_of_lt (show w.heap.size + 1 ≤ w.heap.size + 1 by omega) hsB | exact Nat.lt_of_le_of_lt (show w.heap.size + 1 ≤ w.heap.size + 1 by omega) hsq)).trans (by first | exact kB3 | exact cB0); have kA4 := (hbA.cell (p := ⟨w.heap.size + 1, 1, none⟩) (by first | exact Nat.lt_of_le_of_lt (show w.heap.size + 1 ≤ w.heap.size + 1 by omega) hsB | exact Nat.lt_of_le_of_lt (show w.heap.size + 1 ≤ w.heap.size + 1 by omega) hsq)).trans (by first | exact kB4 | exact cB1); have kA5 := (hbA.cell (p := ⟨w.heap.size + 1, 2, none⟩) (by first | exact Nat.lt_of_le_of_lt (show w.heap.size + 1 ≤ w.heap.size + 1 by omega) hsB | exact Nat.lt_of_le_of_lt (show w.heap.size + 1 ≤ w.heap.size + 1 by omega) hsq)).trans (by first | exact kB5 | exact cB2); (first | have k_bda_A := k_bda_B.below hbA | have k_bda_A := bda.below hbA); (first | have k_bdb_A := k_bdb_B.below hbA | have k_bdb_A := bdb.below hbA))
        | (go_at_call 35; (with_reducible refine (signD_any (.agg #[.bool b.neg, .slice B m d, .int .i64 b.e]) b _ ?_).mono ?_); (first | exact k_bdb_A | exact bdb); rintro e wB ⟨rfl, hbB⟩; have hsB : w.heap.size + 1 < wB.heap.size := Nat.lt_of_lt_of_le (by first | exact hsA | exact hsq) hbB.size; have kB0 := (hbB.cell (p := ⟨w.heap.size, 0, none⟩) (by first | exact Nat.lt_of_le_of_lt (show w.heap.size ≤ w.heap.size + 1 by omega) hsA | exact Nat.lt_of_le_of_lt (show w.heap.size ≤ w.heap.size + 1 by omega) hsq)).trans (by first | exact kA0 | exact cA0); have kB1 := (hbB.cell (p := ⟨w.heap.size, 1, none⟩) (by first | exact Nat.lt_of_le_of_lt (show w.heap.size ≤ w.heap.size + 1 by omega) hsA | exact Nat.lt_of_le_of_lt (show w.heap.size ≤ w.heap.size + 1 by omega) hsq)).trans (by first | exact kA1 | exact cA1); have kB2 := (hbB.cell (p := ⟨w.heap.size, 2, none⟩) (by first | exact Nat.lt_of_le_of_lt (show w.heap.size ≤ w.heap.size + 1 by omega) hsA | exact Nat.lt_of_le_of_lt (show w.heap.size ≤ w.heap.size + 1 by omega) hsq)).trans (by first | exact kA2 | exact cA2); have kB3 := (hbB.cell (p := ⟨w.heap.size + 1, 0, none⟩) (by first | exact Nat.lt_of_le_of_lt (show w.heap.size + 1 ≤ w.heap.size + 1 by omega) hsA | exact Nat.lt_of_le_of_lt (show w.heap.size + 1 ≤ w.heap.size + 1 by omega) hsq)).trans (by first | exact kA3 | exact cB0); have kB4 := (hbB.cell (p := ⟨w.heap.size + 1, 1, none⟩) (by first | exact Nat.lt_of_le_of_lt (show w.heap.size + 1 ≤ w.heap.size + 1 by omega) hsA | exact Nat.lt_of_le_of_lt (show w.heap.size + 1 ≤ w.heap.size + 1 by omega) hsq)).trans (by first | exact kA4 | exact cB1); have kB5 := (hbB.cell (p := ⟨w.heap.size + 1, 2, none⟩) (by first | exact Nat.lt_of_le_of_lt (show w.heap.size + 1 ≤ w.heap.size + 1 by omega) hsA | exact Nat.lt_of_le_of_lt (show w.heap.size + 1 ≤ w.heap.size + 1 by omega) hsq)).trans (by first | exact kA5 | exact cB2); (first | have k_bda_B := k_bda_A.below hbB | have k_bda_B := bda.below hbB); (first | have k_bdb_B := k_bdb_A.below hbB | have k_bdb_B := bdb.below hbB)))
    all_goals first
      | (have hbF := below_then (below_then hb2.drew hbA) hbB; have f0 := kB0; have f1 := kB1; have f2 := kB2; have f3 := kB3; have f4 := kB4; have f5 := kB5; have fda := k_bda_B; have fdb := k_bdb_B; have hsF := hsB; clear kA0 kA1 kA2 kA3 kA4 kA5 kB0 kB1 kB2 kB3 kB4 kB5 k_bda_A k_bdb_A k_bda_B k_bdb_B hsA hsB hbA hbB bda bdb cA0 cA1 cA2 cB0 cB1 cB2)
      | (have hbF := below_then (below_then hb2.drew hbB) hbA; have f0 := kA0; have f1 := kA1; have f2 := kA2; have f3 := kA3; have f4 := kA4; have f5 := kA5; have fda := k_bda_A; have fdb := k_bdb_A; have hsF := hsA; clear kA0 kA1 kA2 kA3 kA4 kA5 kB0 kB1 kB2 kB3 kB4 kB5 k_bda_A k_bdb_A k_bda_B k_bdb_B hsA hsB hbA hbB bda bdb cA0 cA1 cA2 cB0 cB1 cB2)

    all_goals
      go_wp2_with fail
      refine (mayD_any _ a _ fda).mono ?_
      rw [hM']
      rintro e w3 ⟨rfl, hb3⟩
      go_wp2
      go_ret
      exact ⟨ret_int hres.out.symm, below_then hbF hb3⟩
end Go.Proofs.YtaifjldpjkabjaaDoor
