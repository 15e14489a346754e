/- Contracts of package dyad, part F: size, Cmp. Contracts of package dyad, part G: Cmp. Dyads in variables of the call's own; halvings. -/
import Derived.Test.YtpkfjfpknbhekaaDyBx
import Derived.Test.YtpkfjfpknbhekaaKitBx
import Derived.IntWalk
import Derived.Deep.RegionHeld3
import Derived.Deep.DrawnRows
namespace Go.Proofs.Ytpkfjfpknbhekaa
open Go.RowKit Pl
attribute [local go_sem ↓] Go.wp_at_zero Go.wp_at_succ

/-- dyad.size, of two that may be. -/
def cmpSize (a b : Dy) : Int :=
  if (sizeN a.m : Int) + a.e < (sizeN b.m : Int) + b.e then -1
  else if (sizeN b.m : Int) + b.e < (sizeN a.m : Int) + a.e then 1
  else cmpN (val BB a.m * 2 ^ (a.e - min a.e b.e).toNat) (val BB b.m * 2 ^ (b.e - min a.e b.e).toNat)


theorem sizeN_le {xs : List Nat} (h : xs.length ≤ 64) (hl : Lim BB xs) : sizeN xs ≤ 4096 := by
  unfold sizeN
  split
  · omega
  · have : blen (nth xs (xs.length - 1)) ≤ 64 := blen_le.2 (hl.getD BB_pos _)
    omega

set_option maxRecDepth 100000 in
set_option maxHeartbeats 1000000 in
theorem cmpSize_any (u v : Value) (a b : Dy) (w : World) (h : RdD w u a) (k : RdD w v b) (ha : mayD a = true) (hb : mayD b = true) :
    Calls Try.prog 89 #[u, v] w fun e w' => e = .returned (.int .i64 (cmpSize a b)) ∧ Below w.heap.size w w' := by
  obtain ⟨A, n, c, rfl, hr, hl, he1, he2⟩ := h
  obtain ⟨B, m, d, rfl, kr, kl, ke1, ke2⟩ := k
  obtain ⟨aC, a64, ae1, ae2⟩ := mayD_limbs ha
  obtain ⟨bC, b64, be1, be2⟩ := mayD_limbs hb
  have hlen := hr.len
  have klen := kr.len
  have sa := sizeN_le a64 hl
  have sb := sizeN_le b64 kl
  have hb2 : Below w.heap.size w ((w.alloc (.cells #[.bool a.neg, .slice A n c, .int .i64 a.e] 24)).alloc (.cells #[.bool b.neg, .slice B m d, .int .i64 b.e] 24)) := by go_grown
  have hr2 := hr.below hb2
  have kr2 := kr.below hb2
  by_cases h1 : (sizeN a.m : Int) + a.e < (sizeN b.m : Int) + b.e
  · have d1 : decide ((sizeN a.m : Int) + a.e < (sizeN b.m : Int) + b.e) = true := by simpa using h1
    have hres : Hid (cmpSize a b = -1) := by unfold Hid cmpSize; rw [if_pos h1]
    go_enter Try.func89, Try.ntmps89
    go_wp2_with fail
    go_quiet ((go_at_call 93; first | (with_reducible exact quiet1 (size_any _ _ _ _ _ (hr2.drewN _) hl (by omega))) | (with_reducible exact quiet1 (size_any _ _ _ _ _ (kr2.drewN _) kl (by omega)))))
    go_wp2
    go_ret
    exact ⟨ret_int hres.out.symm, below_drewN hb2 _⟩
  · by_cases h2 : (sizeN b.m : Int) + b.e < (sizeN a.m : Int) + a.e
    · have d1 : decide ((sizeN a.m : Int) + a.e < (sizeN b.m : Int) + b.e) = false := by simpa using h1
      have d2 : decide ((sizeN b.m : Int) + b.e < (sizeN a.m : Int) + a.e) = true := by simpa using h2
      have hres : Hid (cmpSize a b = 1) := by unfold Hid cmpSize; rw [if_neg h1, if_pos h2]
      go_enter Try.func89, Try.ntmps89
      go_wp2_with fail
      go_quiet ((go_at_call 93; first | (with_reducible exact quiet1 (size_any _ _ _ _ _ (hr2.drewN _) hl (by omega))) | (with_reducible exact quiet1 (size_any _ _ _ _ _ (kr2.drewN _) kl (by omega)))))
      go_wp2
      go_ret
      exact ⟨ret_int hres.out.symm, below_drewN hb2 _⟩
    · have d1 : decide ((sizeN a.m : Int) + a.e < (sizeN b.m : Int) + b.e) = false := by simpa using h1
      have d2 : decide ((sizeN b.m : Int) + b.e < (sizeN a.m : Int) + a.e) = false := by simpa using h2
      obtain ⟨low, hlow⟩ : ∃ low, low = min a.e b.e := ⟨_, rfl⟩
      have hres : Hid (cmpSize a b = cmpN (val BB a.m * 2 ^ (a.e - low).toNat) (val BB b.m * 2 ^ (b.e - low).toNat)) := by unfold Hid cmpSize; rw [if_neg h1, if_neg h2, hlow]
      have l1 : 0 ≤ a.e - low := by omega
      have l2 : 0 ≤ b.e - low := by omega
      have l3 : a.e - low ≤ 1000000 := by omega
      have l4 : b.e - low ≤ 1000000 := by omega
      have hn5 : n ≤ 100000 := by omega
      have hm5 : m ≤ 100000 := by omega
      have w1 : IntKind.i64.wrap (a.e - low) = a.e - low := IntWalk.i64_in _ (by omega)
      have w2 : IntKind.i64.wrap (b.e - low) = b.e - low := IntWalk.i64_in _ (by omega)
      have HL := hide hlow
      clear hlow
      go_enter Try.func89, Try.ntmps89
      go_wp2_with fail
      go_quiet ((go_at_call 93; first | (with_reducible exact quiet1 (size_any _ _ _ _ _ (hr2.drewN _) hl (by omega))) | (with_reducible exact quiet1 (size_any _ _ _ _ _ (kr2.drewN _) kl (by omega)))))
      go_wp2_with fail
      rw [← HL.out]
      have hbq : Below w.heap.size w ((((w.alloc (.cells #[.bool a.neg, .slice A n c, .int .i64 a.e] 24)).alloc (.cells #[.bool b.neg, .slice B m d, .int .i64 b.e] 24))).drewN nq) := below_drewN hb2 nq
      have hrq := hr2.drewN nq
      have krq := kr2.drewN nq
      have cA1 : ((((w.alloc (.cells #[.bool a.neg, .slice A n c, .int .i64 a.e] 24)).alloc (.cells #[.bool b.neg, .slice B m d, .int .i64 b.e] 24))).drewN nq).cell? ⟨w.heap.size, 1, none⟩ = some (.slice A n c) := by simp [go_sem]
      have cA2 : ((((w.alloc (.cells #[.bool a.neg, .slice A n c, .int .i64 a.e] 24)).alloc (.cells #[.bool b.neg, .slice B m d, .int .i64 b.e] 24))).drewN nq).cell? ⟨w.heap.size, 2, none⟩ = some (.int .i64 a.e) := by simp [go_sem]
      have cB1 : ((((w.alloc (.cells #[.bool a.neg, .slice A n c, .int .i64 a.e] 24)).alloc (.cells #[.bool b.neg, .slice B m d, .int .i64 b.e] 24))).drewN nq).cell? ⟨w.heap.size + 1, 1, none⟩ = some (.slice B m d) := by simp [go_sem]
      have cB2 : ((((w.alloc (.cells #[.bool a.neg, .slice A n c, .int .i64 a.e] 24)).alloc (.cells #[.bool b.neg, .slice B m d, .int .i64 b.e] 24))).drewN nq).cell? ⟨w.heap.size + 1, 2, none⟩ = some (.int .i64 b.e) := by simp [go_sem]
      have hsq : w.heap.size + 1 < ((((w.alloc (.cells #[.bool a.neg, .slice A n c, .int .i64 a.e] 24)).alloc (.cells #[.bool b.neg, .slice B m d, .int .i64 b.e] 24))).drewN nq).heap.size := by simp
      generalize ((((w.alloc (.cells #[.bool a.neg, .slice A n c, .int .i64 a.e] 24)).alloc (.cells #[.bool b.neg, .slice B m d, .int .i64 b.e] 24))).drewN nq) = wq at *
      clear hr2 kr2 hb2
      go_region_held3 (fun w' => w'.cell? ⟨w.heap.size, 1, none⟩ = some (.slice A n c) ∧ w'.cell? ⟨w.heap.size, 2, none⟩ = some (.int .i64 a.e) ∧ w'.cell? ⟨w.heap.size + 1, 1, none⟩ = some (.slice B m d) ∧ w'.cell? ⟨w.heap.size + 1, 2, none⟩ = some (.int .i64 b.e)) (first | exact ⟨kC1, kC2, kC3, kC4⟩ | exact ⟨kA1, kA2, kA3, kA4⟩ | exact ⟨kB1, kB2, kB3, kB4⟩ | go_keep)
        (first
          | (go_at_call 95; (with_reducible refine (left_int A n c a.m _ _ ?_ hl hn5 l1 l3).mono ?_); (first | exact hrq.drew.below hbB | exact hrq.drew); rintro e wA ⟨A1, n1, c1, rfl, hrA, hbA⟩; have hzA : w.heap.size + 1 < _ := (by first | exact hsB | exact hsq); have hsA : w.heap.size + 1 < wA.heap.size := Nat.lt_of_lt_of_le hzA hbA.size; have kA1 := (hbA.cell (p := ⟨w.heap.size, 1, none⟩) (Nat.lt_of_succ_lt hzA)).trans (by first | exact kB1 | exact cA1); have kA2 := (hbA.cell (p := ⟨w.heap.size, 2, none⟩) (Nat.lt_of_succ_lt hzA)).trans (by first | exact kB2 | exact cA2); have kA3 := (hbA.cell (p := ⟨w.heap.size + 1, 1, none⟩) hzA).trans (by first | exact kB3 | exact cB1); have kA4 := (hbA.cell (p := ⟨w.heap.size + 1, 2, none⟩) hzA).trans (by first | exact kB4 | exact cB2))
          | (go_at_call 95; (with_reducible refine (left_int B m d b.m _ _ ?_ kl hm5 l2 l4).mono ?_); (first | exact krq.drew.below hbA | exact krq.drew); rintro e wB ⟨B1, m1, d1, rfl, hrB, hbB⟩; have hzB : w.heap.size + 1 < _ := (by first | exact hsA | exact hsq); have hsB : w.heap.size + 1 < wB.heap.size := Nat.lt_of_lt_of_le hzB hbB.size; have kB1 := (hbB.cell (p := ⟨w.heap.size, 1, none⟩) (Nat.lt_of_succ_lt hzB)).trans (by first | exact kA1 | exact cA1); have kB2 := (hbB.cell (p := ⟨w.heap.size, 2, none⟩) (Nat.lt_of_succ_lt hzB)).trans (by first | exact kA2 | exact cA2); have kB3 := (hbB.cell (p := ⟨w.heap.size + 1, 1, none⟩) hzB).trans (by first | exact kA3 | exact cB1); have kB4 := (hbB.cell (p := ⟨w.heap.size + 1, 2, none⟩) hzB).trans (by first | exact kA4 | exact cB2))
          | (go_at_call 94; (with_reducible refine (order_any A1 n1 c1 (limbs BB (val BB a.m * 2 ^ (a.e - low).toNat)) B1 m1 d1 (limbs BB (val BB b.m * 2 ^ (b.e - low).toNat)) _ ?_ ?_).mono ?_); (first | exact hrA | exact hrA.below hbB); (first | exact hrB | exact hrB.below hbA); rintro e wC ⟨rfl, hbC⟩; have kC1 := (hbC.cell (p := ⟨w.heap.size, 1, none⟩) (by first | exact Nat.lt_of_succ_lt hsB | exact Nat.lt_of_succ_lt hsA)).trans (by first | exact kB1 | exact kA1); have kC2 := (hbC.cell (p := ⟨w.heap.size, 2, none⟩) (by first | exact Nat.lt_of_succ_lt hsB | exact Nat.lt_of_succ_lt hsA)).trans (by first | exact kB2 | exact kA2); have kC3 := (hbC.cell (p := ⟨w.heap.size + 1, 1, none⟩) (by first | exact hsB | exact hsA)).trans (by first | exact kB3 | exact kA3); have kC4 := (hbC.cell (p := ⟨w.heap.size + 1, 2, none⟩) (by first | exact hsB | exact hsA)).trans (by first | exact kB4 | exact kA4)))
      all_goals go_wp2
      all_goals go_ret
      all_goals refine ⟨ret_int (by rw [hres.out]; exact cmpL_limbs BB_gt1 _ _), ?_⟩
      all_goals first
        | exact below_then (below_then (below_then hbq.drew hbA) hbB) hbC
        | exact below_then (below_then (below_then hbq.drew hbB) hbA) hbC
end Go.Proofs.Ytpkfjfpknbhekaa
namespace Go.Proofs.Ytpkfjfpknbhekaa
open Go.RowKit Pl
attribute [local go_sem ↓] Go.wp_at_zero Go.wp_at_succ

/-- dyad.Cmp. -/
def cmpD (a b : Dy) : Int :=
  if mayD a = false ∨ mayD b = false then 0
  else if signD a < signD b then -1
  else if signD b < signD a then 1
  else if signD a = 0 then 0
  else signD a * cmpSize a b

theorem signD_cases (d : Dy) : signD d = 0 ∨ signD d = 1 ∨ signD d = -1 := by
  unfold signD
  split
  · exact .inl rfl
  · split
    · exact .inr (.inr rfl)
    · exact .inr (.inl rfl)
theorem cmpN_le (m n : Nat) : -1 ≤ cmpN m n ∧ cmpN m n ≤ 1 := by
  unfold cmpN
  split
  · omega
  · split <;> omega
theorem cmpSize_le (a b : Dy) : -1 ≤ cmpSize a b ∧ cmpSize a b ≤ 1 := by
  unfold cmpSize
  split
  · omega
  · split
    · omega
    · exact cmpN_le _ _

set_option maxRecDepth 100000 in
set_option maxHeartbeats 4000000 in
theorem cmpD_any (u v : Value) (a b : Dy) (w : World) (h : RdD w u a) (k : RdD w v b) :
    Calls Try.prog 78 #[u, v] w fun e w' => e = .returned (.int .i64 (cmpD a b)) ∧ Below w.heap.size w w' := by
  have h' := h
  have k' := k
  obtain ⟨A, n, c, rfl, hr, hl, he1, he2⟩ := h
  obtain ⟨B, m, d, rfl, kr, kl, ke1, ke2⟩ := k
  have hb2 : Below w.heap.size w ((w.alloc (.cells #[.bool a.neg, .slice A n c, .int .i64 a.e] 24)).alloc (.cells #[.bool b.neg, .slice B m d, .int .i64 b.e] 24)) := by go_grown
  have hda := h'.below hb2
  have hdb := k'.below hb2
  have hsq : w.heap.size + 1 < ((w.alloc (.cells #[.bool a.neg, .slice A n c, .int .i64 a.e] 24)).alloc (.cells #[.bool b.neg, .slice B m d, .int .i64 b.e] 24)).heap.size := by simp
  have cA0 : ((w.alloc (.cells #[.bool a.neg, .slice A n c, .int .i64 a.e] 24)).alloc (.cells #[.bool b.neg, .slice B m d, .int .i64 b.e] 24)).cell? ⟨w.heap.size, 0, none⟩ = some (.bool a.neg) := by simp [go_sem]
  have cA1 : ((w.alloc (.cells #[.bool a.neg, .slice A n c, .int .i64 a.e] 24)).alloc (.cells #[.bool b.neg, .slice B m d, .int .i64 b.e] 24)).cell? ⟨w.heap.size, 1, none⟩ = some (.slice A n c) := by simp [go_sem]
  have cA2 : ((w.alloc (.cells #[.bool a.neg, .slice A n c, .int .i64 a.e] 24)).alloc (.cells #[.bool b.neg, .slice B m d, .int .i64 b.e] 24)).cell? ⟨w.heap.size, 2, none⟩ = some (.int .i64 a.e) := by simp [go_sem]
  have cB0 : ((w.alloc (.cells #[.bool a.neg, .slice A n c, .int .i64 a.e] 24)).alloc (.cells #[.bool b.neg, .slice B m d, .int .i64 b.e] 24)).cell? ⟨w.heap.size + 1, 0, none⟩ = some (.bool b.neg) := by simp [go_sem]
  have cB1 : ((w.alloc (.cells #[.bool a.neg, .slice A n c, .int .i64 a.e] 24)).alloc (.cells #[.bool b.neg, .slice B m d, .int .i64 b.e] 24)).cell? ⟨w.heap.size + 1, 1, none⟩ = some (.slice B m d) := by simp [go_sem]
  have cB2 : ((w.alloc (.cells #[.bool a.neg, .slice A n c, .int .i64 a.e] 24)).alloc (.cells #[.bool b.neg, .slice B m d, .int .i64 b.e] 24)).cell? ⟨w.heap.size + 1, 2, none⟩ = some (.int .i64 b.e) := by simp [go_sem]
  clear h' k'
  by_cases hMa : mayD a = true
  · by_cases hMb : mayD b = true
    · have hn1 : ¬ (mayD a = false ∨ mayD b = false) := by simp [hMa, hMb]
      rcases Int.lt_trichotomy (signD a) (signD b) with hlt | heq | hgt
      · have hres : Hid (cmpD a b = -1) := by unfold Hid cmpD; rw [if_neg hn1, if_pos hlt]
        have t1 : (signD a != signD b) = true := by rw [bne_iff_ne]; omega
        have t2 : decide (signD a < signD b) = true := by simpa using hlt
        clear hn1
        go_enter Try.func78, Try.ntmps78
        go_wp2_with fail
        generalize ((w.alloc (.cells #[.bool a.neg, .slice A n c, .int .i64 a.e] 24)).alloc (.cells #[.bool b.neg, .slice B m d, .int .i64 b.e] 24)) = wq at *
        have bda := hda.drew
        have bdb := hdb.drew
        go_region_held3 (fun w' => w'.cell? ⟨w.heap.size, 0, none⟩ = some (.bool a.neg) ∧ w'.cell? ⟨w.heap.size, 1, none⟩ = some (.slice A n c) ∧ w'.cell? ⟨w.heap.size, 2, none⟩ = some (.int .i64 a.e) ∧ w'.cell? ⟨w.heap.size + 1, 0, none⟩ = some (.bool b.neg) ∧ w'.cell? ⟨w.heap.size + 1, 1, none⟩ = some (.slice B m d) ∧ w'.cell? ⟨w.heap.size + 1, 2, none⟩ = some (.int .i64 b.e)) (first | exact ⟨kA0, kA1, kA2, kA3, kA4, kA5⟩ | exact ⟨kB0, kB1, kB2, kB3, kB4, kB5⟩ | go_keep)
          (first
            | (go_at_call 88; (with_reducible refine (signD_any (.agg #[.bool a.neg, .slice A n c, .int .i64 a.e]) a _ ?_).mono ?_); (first | exact k_bda_B | exact bda); rintro e wA ⟨rfl, hbA⟩; have hsA : w.heap.size + 1 < wA.heap.size := Nat.lt_of_lt_of_le (by first | exact hsB | exact hsq) hbA.size; have kA0 := (hbA.cell (p := ⟨w.heap.size, 0, none⟩) (by first | exact Nat.lt_of_le_of_lt (show w.heap.size ≤ w.heap.size + 1 by omega) hsB | exact Nat.lt_of_le_of_lt (show w.heap.size ≤ w.heap.size + 1 by omega) hsq)).trans (by first | exact kB0 | exact cA0); have kA1 := (hbA.cell (p := ⟨w.heap.size, 1, none⟩) (by first | exact Nat.lt_of_le_of_lt (show w.heap.size ≤ w.heap.size + 1 by omega) hsB | exact Nat.lt_of_le_of_lt (show w.heap.size ≤ w.heap.size + 1 by omega) hsq)).trans (by first | exact kB1 | exact cA1); have kA2 := (hbA.cell (p := ⟨w.heap.size, 2, none⟩) (by first | exact Nat.lt_of_le_of_lt (show w.heap.size ≤ w.heap.size + 1 by omega) hsB | exact Nat.lt_of_le_of_lt (show w.heap.size ≤ w.heap.size + 1 by omega) hsq)).trans (by first | exact kB2 | exact cA2); have kA3 := (hbA.cell (p := ⟨w.heap.size + 1, 0, none⟩) (by first | exact Nat.lt_of_le_of_lt (show w.heap.size + 1 ≤ w.heap.size + 1 by omega) hsB | exact Nat.lt_of_le_of_lt (show w.heap.size + 1 ≤ w.heap.size + 1 by omega) hsq)).trans (by first | exact kB3 | exact cB0); have kA4 := (hbA.cell (p := ⟨w.heap.size + 1, 1, none⟩) (by first | exact Nat.lt_of_le_of_lt (show w.heap.size + 1 ≤ w.heap.size + 1 by omega) hsB | exact Nat.lt_of_le_of_lt (show w.heap.size + 1 ≤ w.heap.size + 1 by omega) hsq)).trans (by first | exact kB4 | exact cB1); have kA5 := (hbA.cell (p := ⟨w.heap.size + 1, 2, none⟩) (by first | exact Nat.lt_of_le_of_lt (show w.heap.size + 1 ≤ w.heap.size + 1 by omega) hsB | exact Nat.lt_of_le_of_lt (show w.heap.size + 1 ≤ w.heap.size + 1 by omega) hsq)).trans (by first | exact kB5 | exact cB2); (first | have k_bda_A := k_bda_B.below hbA | have k_bda_A := bda.below hbA); (first | have k_bdb_A := k_bdb_B.below hbA | have k_bdb_A := bdb.below hbA))
            | (go_at_call 88; (with_reducible refine (signD_any (.agg #[.bool b.neg, .slice B m d, .int .i64 b.e]) b _ ?_).mono ?_); (first | exact k_bdb_A | exact bdb); rintro e wB ⟨rfl, hbB⟩; have hsB : w.heap.size + 1 < wB.heap.size := Nat.lt_of_lt_of_le (by first | exact hsA | exact hsq) hbB.size; have kB0 := (hbB.cell (p := ⟨w.heap.size, 0, none⟩) (by first | exact Nat.lt_of_le_of_lt (show w.heap.size ≤ w.heap.size + 1 by omega) hsA | exact Nat.lt_of_le_of_lt (show w.heap.size ≤ w.heap.size + 1 by omega) hsq)).trans (by first | exact kA0 | exact cA0); have kB1 := (hbB.cell (p := ⟨w.heap.size, 1, none⟩) (by first | exact Nat.lt_of_le_of_lt (show w.heap.size ≤ w.heap.size + 1 by omega) hsA | exact Nat.lt_of_le_of_lt (show w.heap.size ≤ w.heap.size + 1 by omega) hsq)).trans (by first | exact kA1 | exact cA1); have kB2 := (hbB.cell (p := ⟨w.heap.size, 2, none⟩) (by first | exact Nat.lt_of_le_of_lt (show w.heap.size ≤ w.heap.size + 1 by omega) hsA | exact Nat.lt_of_le_of_lt (show w.heap.size ≤ w.heap.size + 1 by omega) hsq)).trans (by first | exact kA2 | exact cA2); have kB3 := (hbB.cell (p := ⟨w.heap.size + 1, 0, none⟩) (by first | exact Nat.lt_of_le_of_lt (show w.heap.size + 1 ≤ w.heap.size + 1 by omega) hsA | exact Nat.lt_of_le_of_lt (show w.heap.size + 1 ≤ w.heap.size + 1 by omega) hsq)).trans (by first | exact kA3 | exact cB0); have kB4 := (hbB.cell (p := ⟨w.heap.size + 1, 1, none⟩) (by first | exact Nat.lt_of_le_of_lt (show w.heap.size + 1 ≤ w.heap.size + 1 by omega) hsA | exact Nat.lt_of_le_of_lt (show w.heap.size + 1 ≤ w.heap.size + 1 by omega) hsq)).trans (by first | exact kA4 | exact cB1); have kB5 := (hbB.cell (p := ⟨w.heap.size + 1, 2, none⟩) (by first | exact Nat.lt_of_le_of_lt (show w.heap.size + 1 ≤ w.heap.size + 1 by omega) hsA | exact Nat.lt_of_le_of_lt (show w.heap.size + 1 ≤ w.heap.size + 1 by omega) hsq)).trans (by first | exact kA5 | exact cB2); (first | have k_bda_B := k_bda_A.below hbB | have k_bda_B := bda.below hbB); (first | have k_bdb_B := k_bdb_A.below hbB | have k_bdb_B := bdb.below hbB)))
        all_goals first
          | (have hbF := below_then (below_then hb2.drew hbA) hbB; have f0 := kB0; have f1 := kB1; have f2 := kB2; have f3 := kB3; have f4 := kB4; have f5 := kB5; have fda := k_bda_B; have fdb := k_bdb_B; have hsF := hsB; clear kA0 kA1 kA2 kA3 kA4 kA5 kB0 kB1 kB2 kB3 kB4 kB5 k_bda_A k_bdb_A k_bda_B k_bdb_B hsA hsB hbA hbB bda bdb cA0 cA1 cA2 cB0 cB1 cB2)
          | (have hbF := below_then (below_then hb2.drew hbB) hbA; have f0 := kA0; have f1 := kA1; have f2 := kA2; have f3 := kA3; have f4 := kA4; have f5 := kA5; have fda := k_bda_A; have fdb := k_bdb_A; have hsF := hsA; clear kA0 kA1 kA2 kA3 kA4 kA5 kB0 kB1 kB2 kB3 kB4 kB5 k_bda_A k_bdb_A k_bda_B k_bdb_B hsA hsB hbA hbB bda bdb cA0 cA1 cA2 cB0 cB1 cB2)

        all_goals
          go_wp2_with fail
          refine (mayD_any _ a _ fda).mono ?_
          rw [hMa]
          rintro e w3 ⟨rfl, hb3⟩
          have f0 := (hb3.cell (p := ⟨w.heap.size, 0, none⟩) (Nat.lt_of_succ_lt hsF)).trans f0
          have f1 := (hb3.cell (p := ⟨w.heap.size, 1, none⟩) (Nat.lt_of_succ_lt hsF)).trans f1
          have f2 := (hb3.cell (p := ⟨w.heap.size, 2, none⟩) (Nat.lt_of_succ_lt hsF)).trans f2
          have f3 := (hb3.cell (p := ⟨w.heap.size + 1, 0, none⟩) hsF).trans f3
          have f4 := (hb3.cell (p := ⟨w.heap.size + 1, 1, none⟩) hsF).trans f4
          have f5 := (hb3.cell (p := ⟨w.heap.size + 1, 2, none⟩) hsF).trans f5
          have fda := fda.below hb3
          have fdb := fdb.below hb3
          have hsF := Nat.lt_of_lt_of_le hsF hb3.size
          have hbF := below_then hbF hb3
          clear hb3
          go_wp2_with fail
          refine (mayD_any _ b _ fdb).mono ?_
          rw [hMb]
          rintro e w3 ⟨rfl, hb3⟩
          go_wp2
          go_ret
          exact ⟨ret_int hres.out.symm, below_then hbF hb3⟩
      · have t1 : (signD a != signD b) = false := by rw [heq]; simp
        rcases signD_cases a with hs | hs | hs
        · have hs2 : signD b = 0 := by rw [← heq]; exact hs
          have hres : Hid (cmpD a b = 0) := by unfold Hid cmpD; rw [if_neg hn1, if_neg (by omega), if_neg (by omega), if_pos hs]
          clear hn1 heq
          go_enter Try.func78, Try.ntmps78
          go_wp2_with fail
          generalize ((w.alloc (.cells #[.bool a.neg, .slice A n c, .int .i64 a.e] 24)).alloc (.cells #[.bool b.neg, .slice B m d, .int .i64 b.e] 24)) = wq at *
          have bda := hda.drew
          have bdb := hdb.drew
          go_region_held3 (fun w' => w'.cell? ⟨w.heap.size, 0, none⟩ = some (.bool a.neg) ∧ w'.cell? ⟨w.heap.size, 1, none⟩ = some (.slice A n c) ∧ w'.cell? ⟨w.heap.size, 2, none⟩ = some (.int .i64 a.e) ∧ w'.cell? ⟨w.heap.size + 1, 0, none⟩ = some (.bool b.neg) ∧ w'.cell? ⟨w.heap.size + 1, 1, none⟩ = some (.slice B m d) ∧ w'.cell? ⟨w.heap.size + 1, 2, none⟩ = some (.int .i64 b.e)) (first | exact ⟨kA0, kA1, kA2, kA3, kA4, kA5⟩ | exact ⟨kB0, kB1, kB2, kB3, kB4, kB5⟩ | go_keep)
            (first
              | (go_at_call 88; (with_reducible refine (signD_any (.agg #[.bool a.neg, .slice A n c, .int .i64 a.e]) a _ ?_).mono ?_); (first | exact k_bda_B | exact bda); rintro e wA ⟨rfl, hbA⟩; have hsA : w.heap.size + 1 < wA.heap.size := Nat.lt_of_lt_of_le (by first | exact hsB | exact hsq) hbA.size; have kA0 := (hbA.cell (p := ⟨w.heap.size, 0, none⟩) (by first | exact Nat.lt_of_le_of_lt (show w.heap.size ≤ w.heap.size + 1 by omega) hsB | exact Nat.lt_of_le_of_lt (show w.heap.size ≤ w.heap.size + 1 by omega) hsq)).trans (by first | exact kB0 | exact cA0); have kA1 := (hbA.cell (p := ⟨w.heap.size, 1, none⟩) (by first | exact Nat.lt_of_le_of_lt (show w.heap.size ≤ w.heap.size + 1 by omega) hsB | exact Nat.lt_of_le_of_lt (show w.heap.size ≤ w.heap.size + 1 by omega) hsq)).trans (by first | exact kB1 | exact cA1); have kA2 := (hbA.cell (p := ⟨w.heap.size, 2, none⟩) (by first | exact Nat.lt_of_le_of_lt (show w.heap.size ≤ w.heap.size + 1 by omega) hsB | exact Nat.lt_of_le_of_lt (show w.heap.size ≤ w.heap.size + 1 by omega) hsq)).trans (by first | exact kB2 | exact cA2); have kA3 := (hbA.cell (p := ⟨w.heap.size + 1, 0, none⟩) (by first | exact Nat.lt_of_le_of_lt (show w.heap.size + 1 ≤ w.heap.size + 1 by omega) hsB | exact Nat.lt_of_le_of_lt (show w.heap.size + 1 ≤ w.heap.size + 1 by omega) hsq)).trans (by first | exact kB3 | exact cB0); have kA4 := (hbA.cell (p := ⟨w.heap.size + 1, 1, none⟩) (by first | exact Nat.lt_of_le_of_lt (show w.heap.size + 1 ≤ w.heap.size + 1 by omega) hsB | exact Nat.lt_of_le_of_lt (show w.heap.size + 1 ≤ w.heap.size + 1 by omega) hsq)).trans (by first | exact kB4 | exact cB1); have kA5 := (hbA.cell (p := ⟨w.heap.size + 1, 2, none⟩) (by first | exact Nat.lt_of_le_of_lt (show w.heap.size + 1 ≤ w.heap.size + 1 by omega) hsB | exact Nat.lt_of_le_of_lt (show w.heap.size + 1 ≤ w.heap.size + 1 by omega) hsq)).trans (by first | exact kB5 | exact cB2); (first | have k_bda_A := k_bda_B.below hbA | have k_bda_A := bda.below hbA); (first | have k_bdb_A := k_bdb_B.below hbA | have k_bdb_A := bdb.below hbA))
              | (go_at_call 88; (with_reducible refine (signD_any (.agg #[.bool b.neg, .slice B m d, .int .i64 b.e]) b _ ?_).mono ?_); (first | exact k_bdb_A | exact bdb); rintro e wB ⟨rfl, hbB⟩; have hsB : w.heap.size + 1 < wB.heap.size := Nat.lt_of_lt_of_le (by first | exact hsA | exact hsq) hbB.size; have kB0 := (hbB.cell (p := ⟨w.heap.size, 0, none⟩) (by first | exact Nat.lt_of_le_of_lt (show w.heap.size ≤ w.heap.size + 1 by omega) hsA | exact Nat.lt_of_le_of_lt (show w.heap.size ≤ w.heap.size + 1 by omega) hsq)).trans (by first | exact kA0 | exact cA0); have kB1 := (hbB.cell (p := ⟨w.heap.size, 1, none⟩) (by first | exact Nat.lt_of_le_of_lt (show w.heap.size ≤ w.heap.size + 1 by omega) hsA | exact Nat.lt_of_le_of_lt (show w.heap.size ≤ w.heap.size + 1 by omega) hsq)).trans (by first | exact kA1 | exact cA1); have kB2 := (hbB.cell (p := ⟨w.heap.size, 2, none⟩) (by first | exact Nat.lt_of_le_of_lt (show w.heap.size ≤ w.heap.size + 1 by omega) hsA | exact Nat.lt_of_le_of_lt (show w.heap.size ≤ w.heap.size + 1 by omega) hsq)).trans (by first | exact kA2 | exact cA2); have kB3 := (hbB.cell (p := ⟨w.heap.size + 1, 0, none⟩) (by first | exact Nat.lt_of_le_of_lt (show w.heap.size + 1 ≤ w.heap.size + 1 by omega) hsA | exact Nat.lt_of_le_of_lt (show w.heap.size + 1 ≤ w.heap.size + 1 by omega) hsq)).trans (by first | exact kA3 | exact cB0); have kB4 := (hbB.cell (p := ⟨w.heap.size + 1, 1, none⟩) (by first | exact Nat.lt_of_le_of_lt (show w.heap.size + 1 ≤ w.heap.size + 1 by omega) hsA | exact Nat.lt_of_le_of_lt (show w.heap.size + 1 ≤ w.heap.size + 1 by omega) hsq)).trans (by first | exact kA4 | exact cB1); have kB5 := (hbB.cell (p := ⟨w.heap.size + 1, 2, none⟩) (by first | exact Nat.lt_of_le_of_lt (show w.heap.size + 1 ≤ w.heap.size + 1 by omega) hsA | exact Nat.lt_of_le_of_lt (show w.heap.size + 1 ≤ w.heap.size + 1 by omega) hsq)).trans (by first | exact kA5 | exact cB2); (first | have k_bda_B := k_bda_A.below hbB | have k_bda_B := bda.below hbB); (first | have k_bdb_B := k_bdb_A.below hbB | have k_bdb_B := bdb.below hbB)))
          all_goals first
            | (have hbF := below_then (below_then hb2.drew hbA) hbB; have f0 := kB0; have f1 := kB1; have f2 := kB2; have f3 := kB3; have f4 := kB4; have f5 := kB5; have fda := k_bda_B; have fdb := k_bdb_B; have hsF := hsB; clear kA0 kA1 kA2 kA3 kA4 kA5 kB0 kB1 kB2 kB3 kB4 kB5 k_bda_A k_bdb_A k_bda_B k_bdb_B hsA hsB hbA hbB bda bdb cA0 cA1 cA2 cB0 cB1 cB2)
            | (have hbF := below_then (below_then hb2.drew hbB) hbA; have f0 := kA0; have f1 := kA1; have f2 := kA2; have f3 := kA3; have f4 := kA4; have f5 := kA5; have fda := k_bda_A; have fdb := k_bdb_A; have hsF := hsA; clear kA0 kA1 kA2 kA3 kA4 kA5 kB0 kB1 kB2 kB3 kB4 kB5 k_bda_A k_bdb_A k_bda_B k_bdb_B hsA hsB hbA hbB bda bdb cA0 cA1 cA2 cB0 cB1 cB2)

          all_goals
            go_wp2_with fail
            refine (mayD_any _ a _ fda).mono ?_
            rw [hMa]
            rintro e w3 ⟨rfl, hb3⟩
            have f0 := (hb3.cell (p := ⟨w.heap.size, 0, none⟩) (Nat.lt_of_succ_lt hsF)).trans f0
            have f1 := (hb3.cell (p := ⟨w.heap.size, 1, none⟩) (Nat.lt_of_succ_lt hsF)).trans f1
            have f2 := (hb3.cell (p := ⟨w.heap.size, 2, none⟩) (Nat.lt_of_succ_lt hsF)).trans f2
            have f3 := (hb3.cell (p := ⟨w.heap.size + 1, 0, none⟩) hsF).trans f3
            have f4 := (hb3.cell (p := ⟨w.heap.size + 1, 1, none⟩) hsF).trans f4
            have f5 := (hb3.cell (p := ⟨w.heap.size + 1, 2, none⟩) hsF).trans f5
            have fda := fda.below hb3
            have fdb := fdb.below hb3
            have hsF := Nat.lt_of_lt_of_le hsF hb3.size
            have hbF := below_then hbF hb3
            clear hb3
            go_wp2_with fail
            refine (mayD_any _ b _ fdb).mono ?_
            rw [hMb]
            rintro e w3 ⟨rfl, hb3⟩
            go_wp2
            go_ret
            exact ⟨ret_int hres.out.symm, below_then hbF hb3⟩
        · have hs2 : signD b = 1 := by rw [← heq]; exact hs
          have hres : Hid (cmpD a b = cmpSize a b) := by unfold Hid cmpD; rw [if_neg hn1, if_neg (by omega), if_neg (by omega), if_neg (by omega), hs]; omega
          have cs := cmpSize_le a b
          obtain ⟨cs1, cs2⟩ := cs
          clear hn1 heq
          go_enter Try.func78, Try.ntmps78
          go_wp2_with fail
          generalize ((w.alloc (.cells #[.bool a.neg, .slice A n c, .int .i64 a.e] 24)).alloc (.cells #[.bool b.neg, .slice B m d, .int .i64 b.e] 24)) = wq at *
          have bda := hda.drew
          have bdb := hdb.drew
          go_region_held3 (fun w' => w'.cell? ⟨w.heap.size, 0, none⟩ = some (.bool a.neg) ∧ w'.cell? ⟨w.heap.size, 1, none⟩ = some (.slice A n c) ∧ w'.cell? ⟨w.heap.size, 2, none⟩ = some (.int .i64 a.e) ∧ w'.cell? ⟨w.heap.size + 1, 0, none⟩ = some (.bool b.neg) ∧ w'.cell? ⟨w.heap.size + 1, 1, none⟩ = some (.slice B m d) ∧ w'.cell? ⟨w.heap.size + 1, 2, none⟩ = some (.int .i64 b.e)) (first | exact ⟨kA0, kA1, kA2, kA3, kA4, kA5⟩ | exact ⟨kB0, kB1, kB2, kB3, kB4, kB5⟩ | go_keep)
            (first
              | (go_at_call 88; (with_reducible refine (signD_any (.agg #[.bool a.neg, .slice A n c, .int .i64 a.e]) a _ ?_).mono ?_); (first | exact k_bda_B | exact bda); rintro e wA ⟨rfl, hbA⟩; have hsA : w.heap.size + 1 < wA.heap.size := Nat.lt_of_lt_of_le (by first | exact hsB | exact hsq) hbA.size; have kA0 := (hbA.cell (p := ⟨w.heap.size, 0, none⟩) (by first | exact Nat.lt_of_le_of_lt (show w.heap.size ≤ w.heap.size + 1 by omega) hsB | exact Nat.lt_of_le_of_lt (show w.heap.size ≤ w.heap.size + 1 by omega) hsq)).trans (by first | exact kB0 | exact cA0); have kA1 := (hbA.cell (p := ⟨w.heap.size, 1, none⟩) (by first | exact Nat.lt_of_le_of_lt (show w.heap.size ≤ w.heap.size + 1 by omega) hsB | exact Nat.lt_of_le_of_lt (show w.heap.size ≤ w.heap.size + 1 by omega) hsq)).trans (by first | exact kB1 | exact cA1); have kA2 := (hbA.cell (p := ⟨w.heap.size, 2, none⟩) (by first | exact Nat.lt_of_le_of_lt (show w.heap.size ≤ w.heap.size + 1 by omega) hsB | exact Nat.lt_of_le_of_lt (show w.heap.size ≤ w.heap.size + 1 by omega) hsq)).trans (by first | exact kB2 | exact cA2); have kA3 := (hbA.cell (p := ⟨w.heap.size + 1, 0, none⟩) (by first | exact Nat.lt_of_le_of_lt (show w.heap.size + 1 ≤ w.heap.size + 1 by omega) hsB | exact Nat.lt_of_le_of_lt (show w.heap.size + 1 ≤ w.heap.size + 1 by omega) hsq)).trans (by first | exact kB3 | exact cB0); have kA4 := (hbA.cell (p := ⟨w.heap.size + 1, 1, none⟩) (by first | exact Nat.lt_of_le_of_lt (show w.heap.size + 1 ≤ w.heap.size + 1 by omega) hsB | exact Nat.lt_of_le_of_lt (show w.heap.size + 1 ≤ w.heap.size + 1 by omega) hsq)).trans (by first | exact kB4 | exact cB1); have kA5 := (hbA.cell (p := ⟨w.heap.size + 1, 2, none⟩) (by first | exact Nat.lt_of_le_of_lt (show w.heap.size + 1 ≤ w.heap.size + 1 by omega) hsB | exact Nat.lt_of_le_of_lt (show w.heap.size + 1 ≤ w.heap.size + 1 by omega) hsq)).trans (by first | exact kB5 | exact cB2); (first | have k_bda_A := k_bda_B.below hbA | have k_bda_A := bda.below hbA); (first | have k_bdb_A := k_bdb_B.below hbA | have k_bdb_A := bdb.below hbA))
              | (go_at_call 88; (with_reducible refine (signD_any (.agg #[.bool b.neg, .slice B m d, .int .i64 b.e]) b _ ?_).mono ?_); (first | exact k_bdb_A | exact bdb); rintro e wB ⟨rfl, hbB⟩; have hsB : w.heap.size + 1 < wB.heap.size := Nat.lt_of_lt_of_le (by first | exact hsA | exact hsq) hbB.size; have kB0 := (hbB.cell (p := ⟨w.heap.size, 0, none⟩) (by first | exact Nat.lt_of_le_of_lt (show w.heap.size ≤ w.heap.size + 1 by omega) hsA | exact Nat.lt_of_le_of_lt (show w.heap.size ≤ w.heap.size + 1 by omega) hsq)).trans (by first | exact kA0 | exact cA0); have kB1 := (hbB.cell (p := ⟨w.heap.size, 1, none⟩) (by first | exact Nat.lt_of_le_of_lt (show w.heap.size ≤ w.heap.size + 1 by omega) hsA | exact Nat.lt_of_le_of_lt (show w.heap.size ≤ w.heap.size + 1 by omega) hsq)).trans (by first | exact kA1 | exact cA1); have kB2 := (hbB.cell (p := ⟨w.heap.size, 2, none⟩) (by first | exact Nat.lt_of_le_of_lt (show w.heap.size ≤ w.heap.size + 1 by omega) hsA | exact Nat.lt_of_le_of_lt (show w.heap.size ≤ w.heap.size + 1 by omega) hsq)).trans (by first | exact kA2 | exact cA2); have kB3 := (hbB.cell (p := ⟨w.heap.size + 1, 0, none⟩) (by first | exact Nat.lt_of_le_of_lt (show w.heap.size + 1 ≤ w.heap.size + 1 by omega) hsA | exact Nat.lt_of_le_of_lt (show w.heap.size + 1 ≤ w.heap.size + 1 by omega) hsq)).trans (by first | exact kA3 | exact cB0); have kB4 := (hbB.cell (p := ⟨w.heap.size + 1, 1, none⟩) (by first | exact Nat.lt_of_le_of_lt (show w.heap.size + 1 ≤ w.heap.size + 1 by omega) hsA | exact Nat.lt_of_le_of_lt (show w.heap.size + 1 ≤ w.heap.size + 1 by omega) hsq)).trans (by first | exact kA4 | exact cB1); have kB5 := (hbB.cell (p := ⟨w.heap.size + 1, 2, none⟩) (by first | exact Nat.lt_of_le_of_lt (show w.heap.size + 1 ≤ w.heap.size + 1 by omega) hsA | exact Nat.lt_of_le_of_lt (show w.heap.size + 1 ≤ w.heap.size + 1 by omega) hsq)).trans (by first | exact kA5 | exact cB2); (first | have k_bda_B := k_bda_A.below hbB | have k_bda_B := bda.below hbB); (first | have k_bdb_B := k_bdb_A.below hbB | have k_bdb_B := bdb.below hbB)))
          all_goals first
            | (have hbF := below_then (below_then hb2.drew hbA) hbB; have f0 := kB0; have f1 := kB1; have f2 := kB2; have f3 := kB3; have f4 := kB4; have f5 := kB5; have fda := k_bda_B; have fdb := k_bdb_B; have hsF := hsB; clear kA0 kA1 kA2 kA3 kA4 kA5 kB0 kB1 kB2 kB3 kB4 kB5 k_bda_A k_bdb_A k_bda_B k_bdb_B hsA hsB hbA hbB bda bdb cA0 cA1 cA2 cB0 cB1 cB2)
            | (have hbF := below_then (below_then hb2.drew hbB) hbA; have f0 := kA0; have f1 := kA1; have f2 := kA2; have f3 := kA3; have f4 := kA4; have f5 := kA5; have fda := k_bda_A; have fdb := k_bdb_A; have hsF := hsA; clear kA0 kA1 kA2 kA3 kA4 kA5 kB0 kB1 kB2 kB3 kB4 kB5 k_bda_A k_bdb_A k_bda_B k_bdb_B hsA hsB hbA hbB bda bdb cA0 cA1 cA2 cB0 cB1 cB2)

          all_goals
            go_wp2_with fail
            refine (mayD_any _ a _ fda).mono ?_
            rw [hMa]
            rintro e w3 ⟨rfl, hb3⟩
            have f0 := (hb3.cell (p := ⟨w.heap.size, 0, none⟩) (Nat.lt_of_succ_lt hsF)).trans f0
            have f1 := (hb3.cell (p := ⟨w.heap.size, 1, none⟩) (Nat.lt_of_succ_lt hsF)).trans f1
            have f2 := (hb3.cell (p := ⟨w.heap.size, 2, none⟩) (Nat.lt_of_succ_lt hsF)).trans f2
            have f3 := (hb3.cell (p := ⟨w.heap.size + 1, 0, none⟩) hsF).trans f3
            have f4 := (hb3.cell (p := ⟨w.heap.size + 1, 1, none⟩) hsF).trans f4
            have f5 := (hb3.cell (p := ⟨w.heap.size + 1, 2, none⟩) hsF).trans f5
            have fda := fda.below hb3
            have fdb := fdb.below hb3
            have hsF := Nat.lt_of_lt_of_le hsF hb3.size
            have hbF := below_then hbF hb3
            clear hb3
            go_wp2_with fail
            refine (mayD_any _ b _ fdb).mono ?_
            rw [hMb]
            rintro e w3 ⟨rfl, hb3⟩
            have f0 := (hb3.cell (p := ⟨w.heap.size, 0, none⟩) (Nat.lt_of_succ_lt hsF)).trans f0
            have f1 := (hb3.cell (p := ⟨w.heap.size, 1, none⟩) (Nat.lt_of_succ_lt hsF)).trans f1
            have f2 := (hb3.cell (p := ⟨w.heap.size, 2, none⟩) (Nat.lt_of_succ_lt hsF)).trans f2
            have f3 := (hb3.cell (p := ⟨w.heap.size + 1, 0, none⟩) hsF).trans f3
            have f4 := (hb3.cell (p := ⟨w.heap.size + 1, 1, none⟩) hsF).trans f4
            have f5 := (hb3.cell (p := ⟨w.heap.size + 1, 2, none⟩) hsF).trans f5
            have fda := fda.below hb3
            have fdb := fdb.below hb3
            have hsF := Nat.lt_of_lt_of_le hsF hb3.size
            have hbF := below_then hbF hb3
            clear hb3
            go_wp2_with fail
            refine (cmpSize_any _ _ a b _ fda fdb hMa hMb).mono ?_
            rintro e w3 ⟨rfl, hb3⟩
            go_wp2
            go_ret
            exact ⟨ret_int hres.out.symm, below_then hbF hb3⟩
        · have hs2 : signD b = -1 := by rw [← heq]; exact hs
          have hres : Hid (cmpD a b = -cmpSize a b) := by unfold Hid cmpD; rw [if_neg hn1, if_neg (by omega), if_neg (by omega), if_neg (by omega), hs]; omega
          have cs := cmpSize_le a b
          obtain ⟨cs1, cs2⟩ := cs
          clear hn1 heq
          go_enter Try.func78, Try.ntmps78
          go_wp2_with fail
          generalize ((w.alloc (.cells #[.bool a.neg, .slice A n c, .int .i64 a.e] 24)).alloc (.cells #[.bool b.neg, .slice B m d, .int .i64 b.e] 24)) = wq at *
          have bda := hda.drew
          have bdb := hdb.drew
          go_region_held3 (fun w' => w'.cell? ⟨w.heap.size, 0, none⟩ = some (.bool a.neg) ∧ w'.cell? ⟨w.heap.size, 1, none⟩ = some (.slice A n c) ∧ w'.cell? ⟨w.heap.size, 2, none⟩ = some (.int .i64 a.e) ∧ w'.cell? ⟨w.heap.size + 1, 0, none⟩ = some (.bool b.neg) ∧ w'.cell? ⟨w.heap.size + 1, 1, none⟩ = some (.slice B m d) ∧ w'.cell? ⟨w.heap.size + 1, 2, none⟩ = some (.int .i64 b.e)) (first | exact ⟨kA0, kA1, kA2, kA3, kA4, kA5⟩ | exact ⟨kB0, kB1, kB2, kB3, kB4, kB5⟩ | go_keep)
            (first
              | (go_at_call 88; (with_reducible refine (signD_any (.agg #[.bool a.neg, .slice A n c, .int .i64 a.e]) a _ ?_).mono ?_); (first | exact k_bda_B | exact bda); rintro e wA ⟨rfl, hbA⟩; have hsA : w.heap.size + 1 < wA.heap.size := Nat.lt_of_lt_of_le (by first | exact hsB | exact hsq) hbA.size; have kA0 := (hbA.cell (p := ⟨w.heap.size, 0, none⟩) (by first | exact Nat.lt_of_le_of_lt (show w.heap.size ≤ w.heap.size + 1 by omega) hsB | exact Nat.lt_of_le_of_lt (show w.heap.size ≤ w.heap.size + 1 by omega) hsq)).trans (by first | exact kB0 | exact cA0); have kA1 := (hbA.cell (p := ⟨w.heap.size, 1, none⟩) (by first | exact Nat.lt_of_le_of_lt (show w.heap.size ≤ w.heap.size + 1 by omega) hsB | exact Nat.lt_of_le_of_lt (show w.heap.size ≤ w.heap.size + 1 by omega) hsq)).trans (by first | exact kB1 | exact cA1); have kA2 := (hbA.cell (p := ⟨w.heap.size, 2, none⟩) (by first | exact Nat.lt_of_le_of_lt (show w.heap.size ≤ w.heap.size + 1 by omega) hsB | exact Nat.lt_of_le_of_lt (show w.heap.size ≤ w.heap.size + 1 by omega) hsq)).trans (by first | exact kB2 | exact cA2); have kA3 := (hbA.cell (p := ⟨w.heap.size + 1, 0, none⟩) (by first | exact Nat.lt_of_le_of_lt (show w.heap.size + 1 ≤ w.heap.size + 1 by omega) hsB | exact Nat.lt_of_le_of_lt (show w.heap.size + 1 ≤ w.heap.size + 1 by omega) hsq)).trans (by first | exact kB3 | exact cB0); have kA4 := (hbA.cell (p := ⟨w.heap.size + 1, 1, none⟩) (by first | exact Nat.lt_of_le_of_lt (show w.heap.size + 1 ≤ w.heap.size + 1 by omega) hsB | exact Nat.lt_of_le_of_lt (show w.heap.size + 1 ≤ w.heap.size + 1 by omega) hsq)).trans (by first | exact kB4 | exact cB1); have kA5 := (hbA.cell (p := ⟨w.heap.size + 1, 2, none⟩) (by first | exact Nat.lt_of_le_of_lt (show w.heap.size + 1 ≤ w.heap.size + 1 by omega) hsB | exact Nat.lt_of_le_of_lt (show w.heap.size + 1 ≤ w.heap.size + 1 by omega) hsq)).trans (by first | exact kB5 | exact cB2); (first | have k_bda_A := k_bda_B.below hbA | have k_bda_A := bda.below hbA); (first | have k_bdb_A := k_bdb_B.below hbA | have k_bdb_A := bdb.below hbA))
              | (go_at_call 88; (with_reducible refine (signD_any (.agg #[.bool b.neg, .slice B m d, .int .i64 b.e]) b _ ?_).mono ?_); (first | exact k_bdb_A | exact bdb); rintro e wB ⟨rfl, hbB⟩; have hsB : w.heap.size + 1 < wB.heap.size := Nat.lt_of_lt_of_le (by first | exact hsA | exact hsq) hbB.size; have kB0 := (hbB.cell (p := ⟨w.heap.size, 0, none⟩) (by first | exact Nat.lt_of_le_of_lt (show w.heap.size ≤ w.heap.size + 1 by omega) hsA | exact Nat.lt_of_le_of_lt (show w.heap.size ≤ w.heap.size + 1 by omega) hsq)).trans (by first | exact kA0 | exact cA0); have kB1 := (hbB.cell (p := ⟨w.heap.size, 1, none⟩) (by first | exact Nat.lt_of_le_of_lt (show w.heap.size ≤ w.heap.size + 1 by omega) hsA | exact Nat.lt_of_le_of_lt (show w.heap.size ≤ w.heap.size + 1 by omega) hsq)).trans (by first | exact kA1 | exact cA1); have kB2 := (hbB.cell (p := ⟨w.heap.size, 2, none⟩) (by first | exact Nat.lt_of_le_of_lt (show w.heap.size ≤ w.heap.size + 1 by omega) hsA | exact Nat.lt_of_le_of_lt (show w.heap.size ≤ w.heap.size + 1 by omega) hsq)).trans (by first | exact kA2 | exact cA2); have kB3 := (hbB.cell (p := ⟨w.heap.size + 1, 0, none⟩) (by first | exact Nat.lt_of_le_of_lt (show w.heap.size + 1 ≤ w.heap.size + 1 by omega) hsA | exact Nat.lt_of_le_of_lt (show w.heap.size + 1 ≤ w.heap.size + 1 by omega) hsq)).trans (by first | exact kA3 | exact cB0); have kB4 := (hbB.cell (p := ⟨w.heap.size + 1, 1, none⟩) (by first | exact Nat.lt_of_le_of_lt (show w.heap.size + 1 ≤ w.heap.size + 1 by omega) hsA | exact Nat.lt_of_le_of_lt (show w.heap.size + 1 ≤ w.heap.size + 1 by omega) hsq)).trans (by first | exact kA4 | exact cB1); have kB5 := (hbB.cell (p := ⟨w.heap.size + 1, 2, none⟩) (by first | exact Nat.lt_of_le_of_lt (show w.heap.size + 1 ≤ w.heap.size + 1 by omega) hsA | exact Nat.lt_of_le_of_lt (show w.heap.size + 1 ≤ w.heap.size + 1 by omega) hsq)).trans (by first | exact kA5 | exact cB2); (first | have k_bda_B := k_bda_A.below hbB | have k_bda_B := bda.below hbB); (first | have k_bdb_B := k_bdb_A.below hbB | have k_bdb_B := bdb.below hbB)))
          all_goals first
            | (have hbF := below_then (below_then hb2.drew hbA) hbB; have f0 := kB0; have f1 := kB1; have f2 := kB2; have f3 := kB3; have f4 := kB4; have f5 := kB5; have fda := k_bda_B; have fdb := k_bdb_B; have hsF := hsB; clear kA0 kA1 kA2 kA3 kA4 kA5 kB0 kB1 kB2 kB3 kB4 kB5 k_bda_A k_bdb_A k_bda_B k_bdb_B hsA hsB hbA hbB bda bdb cA0 cA1 cA2 cB0 cB1 cB2)
            | (have hbF := below_then (below_then hb2.drew hbB) hbA; have f0 := kA0; have f1 := kA1; have f2 := kA2; have f3 := kA3; have f4 := kA4; have f5 := kA5; have fda := k_bda_A; have fdb := k_bdb_A; have hsF := hsA; clear kA0 kA1 kA2 kA3 kA4 kA5 kB0 kB1 kB2 kB3 kB4 kB5 k_bda_A k_bdb_A k_bda_B k_bdb_B hsA hsB hbA hbB bda bdb cA0 cA1 cA2 cB0 cB1 cB2)

          all_goals
            go_wp2_with fail
            refine (mayD_any _ a _ fda).mono ?_
            rw [hMa]
            rintro e w3 ⟨rfl, hb3⟩
            have f0 := (hb3.cell (p := ⟨w.heap.size, 0, none⟩) (Nat.lt_of_succ_lt hsF)).trans f0
            have f1 := (hb3.cell (p := ⟨w.heap.size, 1, none⟩) (Nat.lt_of_succ_lt hsF)).trans f1
            have f2 := (hb3.cell (p := ⟨w.heap.size, 2, none⟩) (Nat.lt_of_succ_lt hsF)).trans f2
            have f3 := (hb3.cell (p := ⟨w.heap.size + 1, 0, none⟩) hsF).trans f3
            have f4 := (hb3.cell (p := ⟨w.heap.size + 1, 1, none⟩) hsF).trans f4
            have f5 := (hb3.cell (p := ⟨w.heap.size + 1, 2, none⟩) hsF).trans f5
            have fda := fda.below hb3
            have fdb := fdb.below hb3
            have hsF := Nat.lt_of_lt_of_le hsF hb3.size
            have hbF := below_then hbF hb3
            clear hb3
            go_wp2_with fail
            refine (mayD_any _ b _ fdb).mono ?_
            rw [hMb]
            rintro e w3 ⟨rfl, hb3⟩
            have f0 := (hb3.cell (p := ⟨w.heap.size, 0, none⟩) (Nat.lt_of_succ_lt hsF)).trans f0
            have f1 := (hb3.cell (p := ⟨w.heap.size, 1, none⟩) (Nat.lt_of_succ_lt hsF)).trans f1
            have f2 := (hb3.cell (p := ⟨w.heap.size, 2, none⟩) (Nat.lt_of_succ_lt hsF)).trans f2
            have f3 := (hb3.cell (p := ⟨w.heap.size + 1, 0, none⟩) hsF).trans f3
            have f4 := (hb3.cell (p := ⟨w.heap.size + 1, 1, none⟩) hsF).trans f4
            have f5 := (hb3.cell (p := ⟨w.heap.size + 1, 2, none⟩) hsF).trans f5
            have fda := fda.below hb3
            have fdb := fdb.below hb3
            have hsF := Nat.lt_of_lt_of_le hsF hb3.size
            have hbF := below_then hbF hb3
            clear hb3
            go_wp2_with fail
            refine (cmpSize_any _ _ a b _ fda fdb hMa hMb).mono ?_
            rintro e w3 ⟨rfl, hb3⟩
            go_wp2
            go_ret
            exact ⟨ret_int hres.out.symm, below_then hbF hb3⟩
      · have hres : Hid (cmpD a b = 1) := by unfold Hid cmpD; rw [if_neg hn1, if_neg (by omega), if_pos hgt]
        have t1 : (signD a != signD b) = true := by rw [bne_iff_ne]; omega
        have t2 : decide (signD a < signD b) = false := by simp; omega
        clear hn1
        go_enter Try.func78, Try.ntmps78
        go_wp2_with fail
        generalize ((w.alloc (.cells #[.bool a.neg, .slice A n c, .int .i64 a.e] 24)).alloc (.cells #[.bool b.neg, .slice B m d, .int .i64 b.e] 24)) = wq at *
        have bda := hda.drew
        have bdb := hdb.drew
        go_region_held3 (fun w' => w'.cell? ⟨w.heap.size, 0, none⟩ = some (.bool a.neg) ∧ w'.cell? ⟨w.heap.size, 1, none⟩ = some (.slice A n c) ∧ w'.cell? ⟨w.heap.size, 2, none⟩ = some (.int .i64 a.e) ∧ w'.cell? ⟨w.heap.size + 1, 0, none⟩ = some (.bool b.neg) ∧ w'.cell? ⟨w.heap.size + 1, 1, none⟩ = some (.slice B m d) ∧ w'.cell? ⟨w.heap.size + 1, 2, none⟩ = some (.int .i64 b.e)) (first | exact ⟨kA0, kA1, kA2, kA3, kA4, kA5⟩ | exact ⟨kB0, kB1, kB2, kB3, kB4, kB5⟩ | go_keep)
          (first
            | (go_at_call 88; (with_reducible refine (signD_any (.agg #[.bool a.neg, .slice A n c, .int .i64 a.e]) a _ ?_).mono ?_); (first | exact k_bda_B | exact bda); rintro e wA ⟨rfl, hbA⟩; have hsA : w.heap.size + 1 < wA.heap.size := Nat.lt_of_lt_of_le (by first | exact hsB | exact hsq) hbA.size; have kA0 := (hbA.cell (p := ⟨w.heap.size, 0, none⟩) (by first | exact Nat.lt_of_le_of_lt (show w.heap.size ≤ w.heap.size + 1 by omega) hsB | exact Nat.lt_of_le_of_lt (show w.heap.size ≤ w.heap.size + 1 by omega) hsq)).trans (by first | exact kB0 | exact cA0); have kA1 := (hbA.cell (p := ⟨w.heap.size, 1, none⟩) (by first | exact Nat.lt_of_le_of_lt (show w.heap.size ≤ w.heap.size + 1 by omega) hsB | exact Nat.lt_of_le_of_lt (show w.heap.size ≤ w.heap.size + 1 by omega) hsq)).trans (by first | exact kB1 | exact cA1); have kA2 := (hbA.cell (p := ⟨w.heap.size, 2, none⟩) (by first | exact Nat.lt_of_le_of_lt (show w.heap.size ≤ w.heap.size + 1 by omega) hsB | exact Nat.lt_of_le_of_lt (show w.heap.size ≤ w.heap.size + 1 by omega) hsq)).trans (by first | exact kB2 | exact cA2); have kA3 := (hbA.cell (p := ⟨w.heap.size + 1, 0, none⟩) (by first | exact Nat.lt_of_le_of_lt (show w.heap.size + 1 ≤ w.heap.size + 1 by omega) hsB | exact Nat.lt_of_le_of_lt (show w.heap.size + 1 ≤ w.heap.size + 1 by omega) hsq)).trans (by first | exact kB3 | exact cB0); have kA4 := (hbA.cell (p := ⟨w.heap.size + 1, 1, none⟩) (by first | exact Nat.lt_of_le_of_lt (show w.heap.size + 1 ≤ w.heap.size + 1 by omega) hsB | exact Nat.lt_of_le_of_lt (show w.heap.size + 1 ≤ w.heap.size + 1 by omega) hsq)).trans (by first | exact kB4 | exact cB1); have kA5 := (hbA.cell (p := ⟨w.heap.size + 1, 2, none⟩) (by first | exact Nat.lt_of_le_of_lt (show w.heap.size + 1 ≤ w.heap.size + 1 by omega) hsB | exact Nat.lt_of_le_of_lt (show w.heap.size + 1 ≤ w.heap.size + 1 by omega) hsq)).trans (by first | exact kB5 | exact cB2); (first | have k_bda_A := k_bda_B.below hbA | have k_bda_A := bda.below hbA); (first | have k_bdb_A := k_bdb_B.below hbA | have k_bdb_A := bdb.below hbA))
            | (go_at_call 88; (with_reducible refine (signD_any (.agg #[.bool b.neg, .slice B m d, .int .i64 b.e]) b _ ?_).mono ?_); (first | exact k_bdb_A | exact bdb); rintro e wB ⟨rfl, hbB⟩; have hsB : w.heap.size + 1 < wB.heap.size := Nat.lt_of_lt_of_le (by first | exact hsA | exact hsq) hbB.size; have kB0 := (hbB.cell (p := ⟨w.heap.size, 0, none⟩) (by first | exact Nat.lt_of_le_of_lt (show w.heap.size ≤ w.heap.size + 1 by omega) hsA | exact Nat.lt_of_le_of_lt (show w.heap.size ≤ w.heap.size + 1 by omega) hsq)).trans (by first | exact kA0 | exact cA0); have kB1 := (hbB.cell (p := ⟨w.heap.size, 1, none⟩) (by first | exact Nat.lt_of_le_of_lt (show w.heap.size ≤ w.heap.size + 1 by omega) hsA | exact Nat.lt_of_le_of_lt (show w.heap.size ≤ w.heap.size + 1 by omega) hsq)).trans (by first | exact kA1 | exact cA1); have kB2 := (hbB.cell (p := ⟨w.heap.size, 2, none⟩) (by first | exact Nat.lt_of_le_of_lt (show w.heap.size ≤ w.heap.size + 1 by omega) hsA | exact Nat.lt_of_le_of_lt (show w.heap.size ≤ w.heap.size + 1 by omega) hsq)).trans (by first | exact kA2 | exact cA2); have kB3 := (hbB.cell (p := ⟨w.heap.size + 1, 0, none⟩) (by first | exact Nat.lt_of_le_of_lt (show w.heap.size + 1 ≤ w.heap.size + 1 by omega) hsA | exact Nat.lt_of_le_of_lt (show w.heap.size + 1 ≤ w.heap.size + 1 by omega) hsq)).trans (by first | exact kA3 | exact cB0); have kB4 := (hbB.cell (p := ⟨w.heap.size + 1, 1, none⟩) (by first | exact Nat.lt_of_le_of_lt (show w.heap.size + 1 ≤ w.heap.size + 1 by omega) hsA | exact Nat.lt_of_le_of_lt (show w.heap.size + 1 ≤ w.heap.size + 1 by omega) hsq)).trans (by first | exact kA4 | exact cB1); have kB5 := (hbB.cell (p := ⟨w.heap.size + 1, 2, none⟩) (by first | exact Nat.lt_of_le_of_lt (show w.heap.size + 1 ≤ w.heap.size + 1 by omega) hsA | exact Nat.lt_of_le_of_lt (show w.heap.size + 1 ≤ w.heap.size + 1 by omega) hsq)).trans (by first | exact kA5 | exact cB2); (first | have k_bda_B := k_bda_A.below hbB | have k_bda_B := bda.below hbB); (first | have k_bdb_B := k_bdb_A.below hbB | have k_bdb_B := bdb.below hbB)))
        all_goals first
          | (have hbF := below_then (below_then hb2.drew hbA) hbB; have f0 := kB0; have f1 := kB1; have f2 := kB2; have f3 := kB3; have f4 := kB4; have f5 := kB5; have fda := k_bda_B; have fdb := k_bdb_B; have hsF := hsB; clear kA0 kA1 kA2 kA3 kA4 kA5 kB0 kB1 kB2 kB3 kB4 kB5 k_bda_A k_bdb_A k_bda_B k_bdb_B hsA hsB hbA hbB bda bdb cA0 cA1 cA2 cB0 cB1 cB2)
          | (have hbF := below_then (below_then hb2.drew hbB) hbA; have f0 := kA0; have f1 := kA1; have f2 := kA2; have f3 := kA3; have f4 := kA4; have f5 := kA5; have fda := k_bda_A; have fdb := k_bdb_A; have hsF := hsA; clear kA0 kA1 kA2 kA3 kA4 kA5 kB0 kB1 kB2 kB3 kB4 kB5 k_bda_A k_bdb_A k_bda_B k_bdb_B hsA hsB hbA hbB bda bdb cA0 cA1 cA2 cB0 cB1 cB2)

        all_goals
          go_wp2_with fail
          refine (mayD_any _ a _ fda).mono ?_
          rw [hMa]
          rintro e w3 ⟨rfl, hb3⟩
          have f0 := (hb3.cell (p := ⟨w.heap.size, 0, none⟩) (Nat.lt_of_succ_lt hsF)).trans f0
          have f1 := (hb3.cell (p := ⟨w.heap.size, 1, none⟩) (Nat.lt_of_succ_lt hsF)).trans f1
          have f2 := (hb3.cell (p := ⟨w.heap.size, 2, none⟩) (Nat.lt_of_succ_lt hsF)).trans f2
          have f3 := (hb3.cell (p := ⟨w.heap.size + 1, 0, none⟩) hsF).trans f3
          have f4 := (hb3.cell (p := ⟨w.heap.size + 1, 1, none⟩) hsF).trans f4
          have f5 := (hb3.cell (p := ⟨w.heap.size + 1, 2, none⟩) hsF).trans f5
          have fda := fda.below hb3
          have fdb := fdb.below hb3
          have hsF := Nat.lt_of_lt_of_le hsF hb3.size
          have hbF := below_then hbF hb3
          clear hb3
          go_wp2_with fail
          refine (mayD_any _ b _ fdb).mono ?_
          rw [hMb]
          rintro e w3 ⟨rfl, hb3⟩
          go_wp2
          go_ret
          exact ⟨ret_int hres.out.symm, below_then hbF hb3⟩
    · have hM' : mayD b = false := by simpa using hMb
      have hres : Hid (cmpD a b = 0) := by unfold Hid cmpD; rw [if_pos (.inr hM')]
      clear hMb
      go_enter Try.func78, Try.ntmps78
      go_wp2_with fail
      generalize ((w.alloc (.cells #[.bool a.neg, .slice A n c, .int .i64 a.e] 24)).alloc (.cells #[.bool b.neg, .slice B m d, .int .i64 b.e] 24)) = wq at *
      have bda := hda.drew
      have bdb := hdb.drew
      go_region_held3 (fun w' => w'.cell? ⟨w.heap.size, 0, none⟩ = some (.bool a.neg) ∧ w'.cell? ⟨w.heap.size, 1, none⟩ = some (.slice A n c) ∧ w'.cell? ⟨w.heap.size, 2, none⟩ = some (.int .i64 a.e) ∧ w'.cell? ⟨w.heap.size + 1, 0, none⟩ = some (.bool b.neg) ∧ w'.cell? ⟨w.heap.size + 1, 1, none⟩ = some (.slice B m d) ∧ w'.cell? ⟨w.heap.size + 1, 2, none⟩ = some (.int .i64 b.e)) (first | exact ⟨kA0, kA1, kA2, kA3, kA4, kA5⟩ | exact ⟨kB0, kB1, kB2, kB3, kB4, kB5⟩ | go_keep)
        (first
          | (go_at_call 88; (with_reducible refine (signD_any (.agg #[.bool a.neg, .slice A n c, .int .i64 a.e]) a _ ?_).mono ?_); (first | exact k_bda_B | exact bda); rintro e wA ⟨rfl, hbA⟩; have hsA : w.heap.size + 1 < wA.heap.size := Nat.lt_of_lt_of_le (by first | exact hsB | exact hsq) hbA.size; have kA0 := (hbA.cell (p := ⟨w.heap.size, 0, none⟩) (by first | exact Nat.lt_of_le_of_lt (show w.heap.size ≤ w.heap.size + 1 by omega) hsB | exact Nat.lt_of_le_of_lt (show w.heap.size ≤ w.heap.size + 1 by omega) hsq)).trans (by first | exact kB0 | exact cA0); have kA1 := (hbA.cell (p := ⟨w.heap.size, 1, none⟩) (by first | exact Nat.lt_of_le_of_lt (show w.heap.size ≤ w.heap.size + 1 by omega) hsB | exact Nat.lt_of_le_of_lt (show w.heap.size ≤ w.heap.size + 1 by omega) hsq)).trans (by first | exact kB1 | exact cA1); have kA2 := (hbA.cell (p := ⟨w.heap.size, 2, none⟩) (by first | exact Nat.lt_of_le_of_lt (show w.heap.size ≤ w.heap.size + 1 by omega) hsB | exact Nat.lt_of_le_of_lt (show w.heap.size ≤ w.heap.size + 1 by omega) hsq)).trans (by first | exact kB2 | exact cA2); have kA3 := (hbA.cell (p := ⟨w.heap.size + 1, 0, none⟩) (by first | exact Nat.lt_of_le_of_lt (show w.heap.size + 1 ≤ w.heap.size + 1 by omega) hsB | exact Nat.lt_of_le_of_lt (show w.heap.size + 1 ≤ w.heap.size + 1 by omega) hsq)).trans (by first | exact kB3 | exact cB0); have kA4 := (hbA.cell (p := ⟨w.heap.size + 1, 1, none⟩) (by first | exact Nat.lt_of_le_of_lt (show w.heap.size + 1 ≤ w.heap.size + 1 by omega) hsB | exact Nat.lt_of_le_of_lt (show w.heap.size + 1 ≤ w.heap.size + 1 by omega) hsq)).trans (by first | exact kB4 | exact cB1); have kA5 := (hbA.cell (p := ⟨w.heap.size + 1, 2, none⟩) (by first | exact Nat.lt_of_le_of_lt (show w.heap.size + 1 ≤ w.heap.size + 1 by omega) hsB | exact Nat.lt_of_le_of_lt (show w.heap.size + 1 ≤ w.heap.size + 1 by omega) hsq)).trans (by first | exact kB5 | exact cB2); (first | have k_bda_A := k_bda_B.below hbA | have k_bda_A := bda.below hbA); (first | have k_bdb_A := k_bdb_B.below hbA | have k_bdb_A := bdb.below hbA))
          | (go_at_call 88; (with_reducible refine (signD_any (.agg #[.bool b.neg, .slice B m d, .int .i64 b.e]) b _ ?_).mono ?_); (first | exact k_bdb_A | exact bdb); rintro e wB ⟨rfl, hbB⟩; have hsB : w.heap.size + 1 < wB.heap.size := Nat.lt_of_lt_of_le (by first | exact hsA | exact hsq) hbB.size; have kB0 := (hbB.cell (p := ⟨w.heap.size, 0, none⟩) (by first | exact Nat.lt_of_le_of_lt (show w.heap.size ≤ w.heap.size + 1 by omega) hsA | exact Nat.lt_of_le_of_lt (show w.heap.size ≤ w.heap.size + 1 by omega) hsq)).trans (by first | exact kA0 | exact cA0); have kB1 := (hbB.cell (p := ⟨w.heap.size, 1, none⟩) (by first | exact Nat.lt_of_le_of_lt (show w.heap.size ≤ w.heap.size + 1 by omega) hsA | exact Nat.lt_of_le_of_lt (show w.heap.size ≤ w.heap.size + 1 by omega) hsq)).trans (by first | exact kA1 | exact cA1); have kB2 := (hbB.cell (p := ⟨w.heap.size, 2, none⟩) (by first | exact Nat.lt_of_le_of_lt (show w.heap.size ≤ w.heap.size + 1 by omega) hsA | exact Nat.lt_of_le_of_lt (show w.heap.size ≤ w.heap.size + 1 by omega) hsq)).trans (by first | exact kA2 | exact cA2); have kB3 := (hbB.cell (p := ⟨w.heap.size + 1, 0, none⟩) (by first | exact Nat.lt_of_le_of_lt (show w.heap.size + 1 ≤ w.heap.size + 1 by omega) hsA | exact Nat.lt_of_le_of_lt (show w.heap.size + 1 ≤ w.heap.size + 1 by omega) hsq)).trans (by first | exact kA3 | exact cB0); have kB4 := (hbB.cell (p := ⟨w.heap.size + 1, 1, none⟩) (by first | exact Nat.lt_of_le_of_lt (show w.heap.size + 1 ≤ w.heap.size + 1 by omega) hsA | exact Nat.lt_of_le_of_lt (show w.heap.size + 1 ≤ w.heap.size + 1 by omega) hsq)).trans (by first | exact kA4 | exact cB1); have kB5 := (hbB.cell (p := ⟨w.heap.size + 1, 2, none⟩) (by first | exact Nat.lt_of_le_of_lt (show w.heap.size + 1 ≤ w.heap.size + 1 by omega) hsA | exact Nat.lt_of_le_of_lt (show w.heap.size + 1 ≤ w.heap.size + 1 by omega) hsq)).trans (by first | exact kA5 | exact cB2); (first | have k_bda_B := k_bda_A.below hbB | have k_bda_B := bda.below hbB); (first | have k_bdb_B := k_bdb_A.below hbB | have k_bdb_B := bdb.below hbB)))
      all_goals first
        | (have hbF := below_then (below_then hb2.drew hbA) hbB; have f0 := kB0; have f1 := kB1; have f2 := kB2; have f3 := kB3; have f4 := kB4; have f5 := kB5; have fda := k_bda_B; have fdb := k_bdb_B; have hsF := hsB; clear kA0 kA1 kA2 kA3 kA4 kA5 kB0 kB1 kB2 kB3 kB4 kB5 k_bda_A k_bdb_A k_bda_B k_bdb_B hsA hsB hbA hbB bda bdb cA0 cA1 cA2 cB0 cB1 cB2)
        | (have hbF := below_then (below_then hb2.drew hbB) hbA; have f0 := kA0; have f1 := kA1; have f2 := kA2; have f3 := kA3; have f4 := kA4; have f5 := kA5; have fda := k_bda_A; have fdb := k_bdb_A; have hsF := hsA; clear kA0 kA1 kA2 kA3 kA4 kA5 kB0 kB1 kB2 kB3 kB4 kB5 k_bda_A k_bdb_A k_bda_B k_bdb_B hsA hsB hbA hbB bda bdb cA0 cA1 cA2 cB0 cB1 cB2)

      all_goals
        go_wp2_with fail
        refine (mayD_any _ a _ fda).mono ?_
        rw [hMa]
        rintro e w3 ⟨rfl, hb3⟩
        have f0 := (hb3.cell (p := ⟨w.heap.size, 0, none⟩) (Nat.lt_of_succ_lt hsF)).trans f0
        have f1 := (hb3.cell (p := ⟨w.heap.size, 1, none⟩) (Nat.lt_of_succ_lt hsF)).trans f1
        have f2 := (hb3.cell (p := ⟨w.heap.size, 2, none⟩) (Nat.lt_of_succ_lt hsF)).trans f2
        have f3 := (hb3.cell (p := ⟨w.heap.size + 1, 0, none⟩) hsF).trans f3
        have f4 := (hb3.cell (p := ⟨w.heap.size + 1, 1, none⟩) hsF).trans f4
        have f5 := (hb3.cell (p := ⟨w.heap.size + 1, 2, none⟩) hsF).trans f5
        have fda := fda.below hb3
        have fdb := fdb.below hb3
        have hsF := Nat.lt_of_lt_of_le hsF hb3.size
        have hbF := below_then hbF hb3
        clear hb3
        go_wp2_with fail
        refine (mayD_any _ b _ fdb).mono ?_
        rw [hM']
        rintro e w3 ⟨rfl, hb3⟩
        go_wp2
        go_ret
        exact ⟨ret_int hres.out.symm, below_then hbF hb3⟩
  · have hM' : mayD a = false := by simpa using hMa
    have hres : Hid (cmpD a b = 0) := by unfold Hid cmpD; rw [if_pos (.inl hM')]
    clear hMa
    go_enter Try.func78, Try.ntmps78
    go_wp2_with fail
    generalize ((w.alloc (.cells #[.bool a.neg, .slice A n c, .int .i64 a.e] 24)).alloc (.cells #[.bool b.neg, .slice B m d, .int .i64 b.e] 24)) = wq at *
    have bda := hda.drew
    have bdb := hdb.drew
    go_region_held3 (fun w' => w'.cell? ⟨w.heap.size, 0, none⟩ = some (.bool a.neg) ∧ w'.cell? ⟨w.heap.size, 1, none⟩ = some (.slice A n c) ∧ w'.cell? ⟨w.heap.size, 2, none⟩ = some (.int .i64 a.e) ∧ w'.cell? ⟨w.heap.size + 1, 0, none⟩ = some (.bool b.neg) ∧ w'.cell? ⟨w.heap.size + 1, 1, none⟩ = some (.slice B m d) ∧ w'.cell? ⟨w.heap.size + 1, 2, none⟩ = some (.int .i64 b.e)) (first | exact ⟨kA0, kA1, kA2, kA3, kA4, kA5⟩ | exact ⟨kB0, kB1, kB2, kB3, kB4, kB5⟩ | go_keep)
      (first
        | (go_at_call 88; (with_reducible refine (signD_any (.agg #[.bool a.neg, .slice A n c, .int .i64 a.e]) a _ ?_).mono ?_); (first | exact k_bda_B | exact bda); rintro e wA ⟨rfl, hbA⟩; have hsA : w.heap.size + 1 < wA.heap.size := Nat.lt_of_lt_of_le (by first | exact hsB | exact hsq) hbA.size; have kA0 := (hbA.cell (p := ⟨w.heap.size, 0, none⟩) (by first | exact Nat.lt_of_le_of_lt (show w.heap.size ≤ w.heap.size + 1 by omega) hsB | exact Nat.lt_of_le_of_lt (show w.heap.size ≤ w.heap.size + 1 by omega) hsq)).trans (by first | exact kB0 | exact cA0); have kA1 := (hbA.cell (p := ⟨w.heap.size, 1, none⟩) (by first | exact Nat.lt_of_le_of_lt (show w.heap.size ≤ w.heap.size + 1 by omega) hsB | exact Nat.lt_of_le_of_lt (show w.heap.size ≤ w.heap.size + 1 by omega) hsq)).trans (by first | exact kB1 | exact cA1); have kA2 := (hbA.cell (p := ⟨w.heap.size, 2, none⟩) (by first | exact Nat.lt_of_le_of_lt (show w.heap.size ≤ w.heap.size + 1 by omega) hsB | exact Nat.lt_of_le_of_lt (show w.heap.size ≤ w.heap.size + 1 by omega) hsq)).trans (by first | exact kB2 | exact cA2); have kA3 := (hbA.cell (p := ⟨w.heap.size + 1, 0, none⟩) (by first | exact Nat.lt_of_le_of_lt (show w.heap.size + 1 ≤ w.heap.size + 1 by omega) hsB | exact Nat.lt_of_le_of_lt (show w.heap.size + 1 ≤ w.heap.size + 1 by omega) hsq)).trans (by first | exact kB3 | exact cB0); have kA4 := (hbA.cell (p := ⟨w.heap.size + 1, 1, none⟩) (by first | exact Nat.lt_of_le_of_lt (show w.heap.size + 1 ≤ w.heap.size + 1 by omega) hsB | exact Nat.lt_of_le_of_lt (show w.heap.size + 1 ≤ w.heap.size + 1 by omega) hsq)).trans (by first | exact kB4 | exact cB1); have kA5 := (hbA.cell (p := ⟨w.heap.size + 1, 2, none⟩) (by first | exact Nat.lt_of_le_of_lt (show w.heap.size + 1 ≤ w.heap.size + 1 by omega) hsB | exact Nat.lt_of_le_of_lt (show w.heap.size + 1 ≤ w.heap.size + 1 by omega) hsq)).trans (by first | exact kB5 | exact cB2); (first | have k_bda_A := k_bda_B.below hbA | have k_bda_A := bda.below hbA); (first | have k_bdb_A := k_bdb_B.below hbA | have k_bdb_A := bdb.below hbA))
        | (go_at_call 88; (with_reducible refine (signD_any (.agg #[.bool b.neg, .slice B m d, .int .i64 b.e]) b _ ?_).mono ?_); (first | exact k_bdb_A | exact bdb); rintro e wB ⟨rfl, hbB⟩; have hsB : w.heap.size + 1 < wB.heap.size := Nat.lt_of_lt_of_le (by first | exact hsA | exact hsq) hbB.size; have kB0 := (hbB.cell (p := ⟨w.heap.size, 0, none⟩) (by first | exact Nat.lt_of_le_of_lt (show w.heap.size ≤ w.heap.size + 1 by omega) hsA | exact Nat.lt_of_le_of_lt (show w.heap.size ≤ w.heap.size + 1 by omega) hsq)).trans (by first | exact kA0 | exact cA0); have kB1 := (hbB.cell (p := ⟨w.heap.size, 1, none⟩) (by first | exact Nat.lt_of_le_of_lt (show w.heap.size ≤ w.heap.size + 1 by omega) hsA | exact Nat.lt_of_le_of_lt (show w.heap.size ≤ w.heap.size + 1 by omega) hsq)).trans (by first | exact kA1 | exact cA1); have kB2 := (hbB.cell (p := ⟨w.heap.size, 2, none⟩) (by first | exact Nat.lt_of_le_of_lt (show w.heap.size ≤ w.heap.size + 1 by omega) hsA | exact Nat.lt_of_le_of_lt (show w.heap.size ≤ w.heap.size + 1 by omega) hsq)).trans (by first | exact kA2 | exact cA2); have kB3 := (hbB.cell (p := ⟨w.heap.size + 1, 0, none⟩) (by first | exact Nat.lt_of_le_of_lt (show w.heap.size + 1 ≤ w.heap.size + 1 by omega) hsA | exact Nat.lt_of_le_of_lt (show w.heap.size + 1 ≤ w.heap.size + 1 by omega) hsq)).trans (by first | exact kA3 | exact cB0); have kB4 := (hbB.cell (p := ⟨w.heap.size + 1, 1, none⟩) (by first | exact Nat.lt_of_le_of_lt (show w.heap.size + 1 ≤ w.heap.size + 1 by omega) hsA | exact Nat.lt_of_le_of_lt (show w.heap.size + 1 ≤ w.heap.size + 1 by omega) hsq)).trans (by first | exact kA4 | exact cB1); have kB5 := (hbB.cell (p := ⟨w.heap.size + 1, 2, none⟩) (by first | exact Nat.lt_of_le_of_lt (show w.heap.size + 1 ≤ w.heap.size + 1 by omega) hsA | exact Nat.lt_of_le_of_lt (show w.heap.size + 1 ≤ w.heap.size + 1 by omega) hsq)).trans (by first | exact kA5 | exact cB2); (first | have k_bda_B := k_bda_A.below hbB | have k_bda_B := bda.below hbB); (first | have k_bdb_B := k_bdb_A.below hbB | have k_bdb_B := bdb.below hbB)))
    all_goals first
      | (have hbF := below_then (below_then hb2.drew hbA) hbB; have f0 := kB0; have f1 := kB1; have f2 := kB2; have f3 := kB3; have f4 := kB4; have f5 := kB5; have fda := k_bda_B; have fdb := k_bdb_B; have hsF := hsB; clear kA0 kA1 kA2 kA3 kA4 kA5 kB0 kB1 kB2 kB3 kB4 kB5 k_bda_A k_bdb_A k_bda_B k_bdb_B hsA hsB hbA hbB bda bdb cA0 cA1 cA2 cB0 cB1 cB2)
      | (have hbF := below_then (below_then hb2.drew hbB) hbA; have f0 := kA0; have f1 := kA1; have f2 := kA2; have f3 := kA3; have f4 := kA4; have f5 := kA5; have fda := k_bda_A; have fdb := k_bdb_A; have hsF := hsA; clear kA0 kA1 kA2 kA3 kA4 kA5 kB0 kB1 kB2 kB3 kB4 kB5 k_bda_A k_bdb_A k_bda_B k_bdb_B hsA hsB hbA hbB bda bdb cA0 cA1 cA2 cB0 cB1 cB2)

    all_goals
      go_wp2_with fail
      refine (mayD_any _ a _ fda).mono ?_
      rw [hM']
      rintro e w3 ⟨rfl, hb3⟩
      go_wp2
      go_ret
      exact ⟨ret_int hres.out.symm, below_then hbF hb3⟩
end Go.Proofs.Ytpkfjfpknbhekaa
namespace Go.Proofs.Ytpkfjfpknbhekaa
open Go.RowKit Pl

/-- Block X is a variable that holds a Dyad. -/
structure BoxDy (w : World) (X : Nat) (d : Dy) (A : Option Addr) (n c : Nat) : Prop where
  c0 : w.cell? ⟨X, 0, none⟩ = some (.bool d.neg)
  c1 : w.cell? ⟨X, 1, none⟩ = some (.slice A n c)
  c2 : w.cell? ⟨X, 2, none⟩ = some (.int .i64 d.e)
  rd : RdD w (.agg #[.bool d.neg, .slice A n c, .int .i64 d.e]) d
  no : ∀ o x, w.cell? ⟨X, o, none⟩ ≠ some (.int .u64 x)
  fr : ∀ o, w.frozen? ⟨X, o, none⟩ = false
  lt : X < w.heap.size
theorem BoxDy.new {w : World} {d : Dy} {A : Option Addr} {n c : Nat} {t : TypeId} (h : RdD w (.agg #[.bool d.neg, .slice A n c, .int .i64 d.e]) d) :
    BoxDy (w.alloc (.cells #[.bool d.neg, .slice A n c, .int .i64 d.e] t)) w.heap.size d A n c := by
  refine ⟨by simp [go_sem], by simp [go_sem], by simp [go_sem], h.below (by go_grown), fun o x => ?_, fun o => by simp [go_sem], by simp⟩
  rw [cell_of_row _ _ _ _ _ _ (heap_alloc_new w _)]
  rcases o with _ | _ | _ | o <;> simp
theorem BoxDy.below {w w' : World} {X : Nat} {d : Dy} {A : Option Addr} {n c : Nat} (h : BoxDy w X d A n c) (hb : Below w.heap.size w w') : BoxDy w' X d A n c := by
  obtain ⟨hcc, hff⟩ := bcell hb
  exact ⟨(hcc _ _ h.lt).trans h.c0, (hcc _ _ h.lt).trans h.c1, (hcc _ _ h.lt).trans h.c2, h.rd.below hb, fun o x => by rw [hcc _ _ h.lt]; exact h.no o x, fun o => (hff _ _ h.lt).trans (h.fr o), Nat.lt_of_lt_of_le h.lt hb.size⟩
end Go.Proofs.Ytpkfjfpknbhekaa
