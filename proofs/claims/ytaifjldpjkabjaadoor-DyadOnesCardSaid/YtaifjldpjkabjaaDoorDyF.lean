/- Contracts of package dyad, part F: size, Cmp. -/
import Derived.Test.YtaifjldpjkabjaaDoorDyE
import Derived.Test.YtaifjldpjkabjaaDoorKitB
import Derived.IntWalk
import Derived.Deep.RegionHeld3
import Derived.Deep.DrawnRows
namespace Go.Proofs.YtaifjldpjkabjaaDoor
open Go.RowKit Pl
attribute [local go_sem ↓] Go.wp_at_zero Go.wp_at_succ

/-- dyad.size, of two that may be. -/
def cmpSize (a b : Dy) : Int :=
  if (sizeN a.m : Int) + a.e < (sizeN b.m : Int) + b.e then -1
  else if (sizeN b.m : Int) + b.e < (sizeN a.m : Int) + a.e then 1
  else cmpN (val BB a.m * 2 ^ (a.e - min a.e b.e).toNat) (val BB b.m * 2 ^ (b.e - min a.e b.e).toNat)


theorem sizeN_le {xs : List Nat} (h : xs.length ≤ 64) (hl : Lim BB xs) : sizeN xs ≤ 4096 := by
  unfold sizeN
  split
  · omega
  · have : blen (nth xs (xs.length - 1)) ≤ 64 := blen_le.2 (hl.getD BB_pos _)
    omega

set_option maxRecDepth 100000 in
set_option maxHeartbeats 1000000 in
theorem cmpSize_any (u v : Value) (a b : Dy) (w : World) (h : RdD w u a) (k : RdD w v b) (ha : mayD a = true) (hb : mayD b = true) :
    Calls Tryd.prog 86 #[u, v] w fun e w' => e = .returned (.int .i64 (cmpSize a b)) ∧ Below w.heap.size w w' := by
  obtain ⟨A, n, c, rfl, hr, hl, he1, he2⟩ := h
  obtain ⟨B, m, d, rfl, kr, kl, ke1, ke2⟩ := k
  obtain ⟨aC, a64, ae1, ae2⟩ := mayD_limbs ha
  obtain ⟨bC, b64, be1, be2⟩ := mayD_limbs hb
  have hlen := hr.len
  have klen := kr.len
  have sa := sizeN_le a64 hl
  have sb := sizeN_le b64 kl
  have hb2 : Below w.heap.size w ((w.alloc (.cells #[.bool a.neg, .slice A n c, .int .i64 a.e] 24)).alloc (.cells #[.bool b.neg, .slice B m d, .int .i64 b.e] 24)) := by go_grown
  have hr2 := hr.below hb2
  have kr2 := kr.below hb2
  by_cases h1 : (sizeN a.m : Int) + a.e < (sizeN b.m : Int) + b.e
  · have d1 : decide ((sizeN a.m : Int) + a.e < (sizeN b.m : Int) + b.e) = true := by simpa using h1
    have hres : Hid (cmpSize a b = -1) := by unfold Hid cmpSize; rw [if_pos h1]
    go_enter Tryd.func86, Tryd.ntmps86
    go_wp2_with fail
    go_quiet ((go_at_call 103; first | (with_reducible exact quiet1 (size_any _ _ _ _ _ (hr2.drewN _) hl (by omega))) | (with_reducible exact quiet1 (size_any _ _ _ _ _ (kr2.drewN _) kl (by omega)))))
    go_wp2
    go_ret
    exact ⟨ret_int hres.out.symm, below_drewN hb2 _⟩
  · by_cases h2 : (sizeN b.m : Int) + b.e < (sizeN a.m : Int) + a.e
    · have d1 : decide ((sizeN a.m : Int) + a.e < (sizeN b.m : Int) + b.e) = false := by simpa using h1
      have d2 : decide ((sizeN b.m : Int) + b.e < (sizeN a.m : Int) + a.e) = true := by simpa using h2
      have hres : Hid (cmpSize a b = 1) := by unfold Hid cmpSize; rw [if_neg h1, if_pos h2]
      go_enter Tryd.func86, Tryd.ntmps86
      go_wp2_with fail
      go_quiet ((go_at_call 103; first | (with_reducible exact quiet1 (size_any _ _ _ _ _ (hr2.drewN _) hl (by omega))) | (with_reducible exact quiet1 (size_any _ _ _ _ _ (kr2.drewN _) kl (by omega)))))
      go_wp2
      go_ret
      exact ⟨ret_int hres.out.symm, below_drewN hb2 _⟩
    · have d1 : decide ((sizeN a.m : Int) + a.e < (sizeN b.m : Int) + b.e) = false := by simpa using h1
      have d2 : decide ((sizeN b.m : Int) + b.e < (sizeN a.m : Int) + a.e) = false := by simpa using h2
      obtain ⟨low, hlow⟩ : ∃ low, low = min a.e b.e := ⟨_, rfl⟩
      have hres : Hid (cmpSize a b = cmpN (val BB a.m * 2 ^ (a.e - low).toNat) (val BB b.m * 2 ^ (b.e - low).toNat)) := by unfold Hid cmpSize; rw [if_neg h1, if_neg h2, hlow]
      have l1 : 0 ≤ a.e - low := by omega
      have l2 : 0 ≤ b.e - low := by omega
      have l3 : a.e - low ≤ 1000000 := by omega
      have l4 : b.e - low ≤ 1000000 := by omega
      have hn5 : n ≤ 100000 := by omega
      have hm5 : m ≤ 100000 := by omega
      have w1 : IntKind.i64.wrap (a.e - low) = a.e - low := IntWalk.i64_in _ (by omega)
      have w2 : IntKind.i64.wrap (b.e - low) = b.e - low := IntWalk.i64_in _ (by omega)
      have HL := hide hlow
      clear hlow
      go_enter Tryd.func86, Tryd.ntmps86
      go_wp2_with fail
      go_quiet ((go_at_call 103; first | (with_reducible exact quiet1 (size_any _ _ _ _ _ (hr2.drewN _) hl (by omega))) | (with_reducible exact quiet1 (size_any _ _ _ _ _ (kr2.drewN _) kl (by omega)))))
      go_wp2_with fail
      rw [← HL.out]
      have hbq : Below w.heap.size w ((((w.alloc (.cells #[.bool a.neg, .slice A n c, .int .i64 a.e] 24)).alloc (.cells #[.bool b.neg, .slice B m d, .int .i64 b.e] 24))).drewN nq) := below_drewN hb2 nq
      have hrq := hr2.drewN nq
      have krq := kr2.drewN nq
      have cA1 : ((((w.alloc (.cells #[.bool a.neg, .slice A n c, .int .i64 a.e] 24)).alloc (.cells #[.bool b.neg, .slice B m d, .int .i64 b.e] 24))).drewN nq).cell? ⟨w.heap.size, 1, none⟩ = some (.slice A n c) := by simp [go_sem]
      have cA2 : ((((w.alloc (.cells #[.bool a.neg, .slice A n c, .int .i64 a.e] 24)).alloc (.cells #[.bool b.neg, .slice B m d, .int .i64 b.e] 24))).drewN nq).cell? ⟨w.heap.size, 2, none⟩ = some (.int .i64 a.e) := by simp [go_sem]
      have cB1 : ((((w.alloc (.cells #[.bool a.neg, .slice A n c, .int .i64 a.e] 24)).alloc (.cells #[.bool b.neg, .slice B m d, .int .i64 b.e] 24))).drewN nq).cell? ⟨w.heap.size + 1, 1, none⟩ = some (.slice B m d) := by simp [go_sem]
      have cB2 : ((((w.alloc (.cells #[.bool a.neg, .slice A n c, .int .i64 a.e] 24)).alloc (.cells #[.bool b.neg, .slice B m d, .int .i64 b.e] 24))).drewN nq).cell? ⟨w.heap.size + 1, 2, none⟩ = some (.int .i64 b.e) := by simp [go_sem]
      have hsq : w.heap.size + 1 < ((((w.alloc (.cells #[.bool a.neg, .slice A n c, .int .i64 a.e] 24)).alloc (.cells #[.bool b.neg, .slice B m d, .int .i64 b.e] 24))).drewN nq).heap.size := by simp
      generalize ((((w.alloc (.cells #[.bool a.neg, .slice A n c, .int .i64 a.e] 24)).alloc (.cells #[.bool b.neg, .slice B m d, .int .i64 b.e] 24))).drewN nq) = wq at *
      clear hr2 kr2 hb2
      go_region_held3 (fun w' => w'.cell? ⟨w.heap.size, 1, none⟩ = some (.slice A n c) ∧ w'.cell? ⟨w.heap.size, 2, none⟩ = some (.int .i64 a.e) ∧ w'.cell? ⟨w.heap.size + 1, 1, none⟩ = some (.slice B m d) ∧ w'.cell? ⟨w.heap.size + 1, 2, none⟩ = some (.int .i64 b.e)) (first | exact ⟨kC1, kC2, kC3, kC4⟩ | exact ⟨kA1, kA2, kA3, kA4⟩ | exact ⟨kB1, kB2, kB3, kB4⟩ | go_keep)
        (first
          | (go_at_call 112; (with_reducible refine (left_int A n c a.m _ _ ?_ hl hn5 l1 l3).mono ?_); (first | exact hrq.drew.below hbB | exact hrq.drew); rintro e wA ⟨A1, n1, c1, rfl, hrA, hbA⟩; have hzA : w.heap.size + 1 < _ := (by first | exact hsB | exact hsq); have hsA : w.heap.size + 1 < wA.heap.size := Nat.lt_of_lt_of_le hzA hbA.size; have kA1 := (hbA.cell (p := ⟨w.heap.size, 1, none⟩) (Nat.lt_of_succ_lt hzA)).trans (by first | exact kB1 | exact cA1); have kA2 := (hbA.cell (p := ⟨w.heap.size, 2, none⟩) (Nat.lt_of_succ_lt hzA)).trans (by first | exact kB2 | exact cA2); have kA3 := (hbA.cell (p := ⟨w.heap.size + 1, 1, none⟩) hzA).trans (by first | exact kB3 | exact cB1); have kA4 := (hbA.cell (p := ⟨w.heap.size + 1, 2, none⟩) hzA).trans (by first | exact kB4 | exact cB2))
          | (go_at_call 112; (with_reducible refine (left_int B m d b.m _ _ ?_ kl hm5 l2 l4).mono ?_); (first | exact krq.drew.below hbA | exact krq.drew); rintro e wB ⟨B1, m1, d1, rfl, hrB, hbB⟩; have hzB : w.heap.size + 1 < _ := (by first | exact hsA | exact hsq); have hsB : w.heap.size + 1 < wB.heap.size := Nat.lt_of_lt_of_le hzB hbB.size; have kB1 := (hbB.cell (p := ⟨w.heap.size, 1, none⟩) (Nat.lt_of_succ_lt hzB)).trans (by first | exact kA1 | exact cA1); have kB2 := (hbB.cell (p := ⟨w.heap.size, 2, none⟩) (Nat.lt_of_succ_lt hzB)).trans (by first | exact kA2 | exact cA2); have kB3 := (hbB.cell (p := ⟨w.heap.size + 1, 1, none⟩) hzB).trans (by first | exact kA3 | exact cB1); have kB4 := (hbB.cell (p := ⟨w.heap.size + 1, 2, none⟩) hzB).trans (by first | exact kA4 | exact cB2))
          | (go_at_call 114; (with_reducible refine (order_any A1 n1 c1 (limbs BB (val BB a.m * 2 ^ (a.e - low).toNat)) B1 m1 d1 (limbs BB (val BB b.m * 2 ^ (b.e - low).toNat)) _ ?_ ?_).mono ?_); (first | exact hrA | exact hrA.below hbB); (first | exact hrB | exact hrB.below hbA); rintro e wC ⟨rfl, hbC⟩; have kC1 := (hbC.cell (p := ⟨w.heap.size, 1, none⟩) (by first | exact Nat.lt_of_succ_lt hsB | exact Nat.lt_of_succ_lt hsA)).trans (by first | exact kB1 | exact kA1); have kC2 := (hbC.cell (p := ⟨w.heap.size, 2, none⟩) (by first | exact Nat.lt_of_succ_lt hsB | exact Nat.lt_of_succ_lt hsA)).trans (by first | exact kB2 | exact kA2); have kC3 := (hbC.cell (p := ⟨w.heap.size + 1, 1, none⟩) (by first | exact hsB | exact hsA)).trans (by first | exact kB3 | exact kA3); have kC4 := (hbC.cell (p := ⟨w.heap.size + 1, 2, none⟩) (by first | exact hsB | exact hsA)).trans (by first | exact kB4 | exact kA4)))
      all_goals go_wp2
      all_goals go_ret
      all_goals refine ⟨ret_int (by rw [hres.out]; exact cmpL_limbs BB_gt1 _ _), ?_⟩
      all_goals first
        | exact below_then (below_then (below_then hbq.drew hbA) hbB) hbC
        | exact below_then (below_then (below_then hbq.drew hbB) hbA) hbC
end Go.Proofs.YtaifjldpjkabjaaDoor
