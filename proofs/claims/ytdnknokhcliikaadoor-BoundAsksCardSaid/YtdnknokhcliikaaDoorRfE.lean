/- Contracts of the document's answer sluicewayref1, part E: CmpDyad, Less. -/
import Derived.Test.YtdnknokhcliikaaDoorRfD
namespace Go.Proofs.YtdnknokhcliikaaDoor
open Go.RowKit Pl
attribute [local go_sem ↓] Go.wp_at_zero Go.wp_at_succ

theorem cmpSize_R {a b : Dy} (ha : mayD a = true) (hb : mayD b = true) (hla : Lim BB a.m) (hlb : Lim BB b.m) : cmpSize a b = sizeR (val BB a.m) a.e (val BB b.m) b.e := by
  obtain ⟨aC, a64, ae1, ae2⟩ := mayD_limbs ha
  obtain ⟨bC, b64, be1, be2⟩ := mayD_limbs hb
  unfold cmpSize sizeR
  rw [sizeN_can hla aC, sizeN_can hlb bC]
theorem blen64 {xs : List Nat} (hl : Lim BB xs) (h : xs.length ≤ 64) : blen (val BB xs) ≤ 4096 := by
  have := val_blen hl
  omega

set_option maxRecDepth 100000 in
set_option maxHeartbeats 2000000 in
theorem rcmpD_any (u v : Value) (a b : Dy) (w : World) (h : RdD w u a) (k : RdD w v b) :
    Calls Tryd.prog 76 #[u, v] w fun e w' => e = .returned (.int .i64 (cmpD a b)) ∧ Below w.heap.size w w' := by
  have h' := h
  have k' := k
  obtain ⟨A, n, c, rfl, hr, hl, he1, he2⟩ := h
  obtain ⟨B, m, d, rfl, kr, kl, ke1, ke2⟩ := k
  have hlen := hr.len
  have klen := kr.len
  obtain ⟨hA, hB, hb0⟩ := box_2 w [.bool a.neg, .slice A n c, .int .i64 a.e] [.bool b.neg, .slice B m d, .int .i64 b.e] 24 24
  go_enter Tryd.func76, Tryd.ntmps76
  go_upto_region 1 with fail
  generalize ((w.alloc (.cells #[.bool a.neg, .slice A n c, .int .i64 a.e] 24)).alloc (.cells #[.bool b.neg, .slice B m d, .int .i64 b.e] 24)) = W at *
  have hda := h'.below hb0
  have hdb := k'.below hb0
  clear h' k'
  have a0 := hA.cell 0 rfl
  have a1 := hA.cell 1 rfl
  have a2 := hA.cell 2 rfl
  have b0 := hB.cell 0 rfl
  have b1 := hB.cell 1 rfl
  have b2 := hB.cell 2 rfl
  by_cases hMa : mayD a = true
  · go_wp2_with fail
    refine (rmayD_any _ a _ hda).mono ?_
    rw [hMa]
    rintro x w1 ⟨rfl, hb1⟩
    clear a0 a1 a2 b0 b1 b2
    have hA1 := hA.keep hb1
    have hB1 := hB.keep hb1
    have hda1 := hda.below hb1
    have hdb1 := hdb.below hb1
    have hb01 := below_then hb0 hb1
    have a0 := hA1.cell 0 rfl
    have a1 := hA1.cell 1 rfl
    have a2 := hA1.cell 2 rfl
    have b0 := hB1.cell 0 rfl
    have b1 := hB1.cell 1 rfl
    have b2 := hB1.cell 2 rfl
    by_cases hMb : mayD b = true
    · go_wp2_with fail
      refine (rmayD_any _ b _ hdb1).mono ?_
      rw [hMb]
      rintro x w2 ⟨rfl, hb2⟩
      clear a0 a1 a2 b0 b1 b2
      have hA2 := hA1.keep hb2
      have hB2 := hB1.keep hb2
      have hda2 := hda1.below hb2
      have hdb2 := hdb1.below hb2
      have hb02 := below_then hb01 hb2
      clear hda hdb hda1 hdb1 hA hB hA1 hB1 hb1 hb2 hb01
      go_upto_region 3 with fail
      have a0 := hA2.ext 0 rfl
      have a1 := hA2.ext 1 rfl
      have a2 := hA2.ext 2 rfl
      have b0 := hB2.ext 0 rfl
      have b1 := hB2.ext 1 rfl
      have b2 := hB2.ext 2 rfl
      refine wp_region_ext w2 (Below.refl _ _) (by kernel_rfl) ?_
      repeat (quiet_step ((go_at_call 50; first | (with_reducible exact calls_ext (rsignD_any (.agg #[.bool a.neg, .slice A n c, .int .i64 a.e]) a _ (hda2.below (Ext.hb _)))) | (with_reducible exact calls_ext (rsignD_any (.agg #[.bool b.neg, .slice B m d, .int .i64 b.e]) b _ (hdb2.below (Ext.hb _)))))))
      refine wpQuiet_nil ?_
      rintro _ ⟨e3, rfl⟩
      have hb3 := e3.hb
      generalize e3.w = w3 at *
      have hA3 := hA2.keep hb3
      have hB3 := hB2.keep hb3
      have hda3 := hda2.below hb3
      have hdb3 := hdb2.below hb3
      have hb03 := below_then hb02 hb3
      clear a0 a1 a2 b0 b1 b2 hA2 hB2 hda2 hdb2 hb3 hb02
      have hn1 : ¬ (mayD a = false ∨ mayD b = false) := by simp [hMa, hMb]
      rcases Int.lt_trichotomy (signD a) (signD b) with hlt | heq | hgt
      · have hres : Hid (cmpD a b = -1) := by unfold Hid cmpD; rw [if_neg hn1, if_pos hlt]
        have t1 : (signD a != signD b) = true := by rw [bne_iff_ne]; omega
        have t2 : decide (signD a < signD b) = true := by simpa using hlt
        clear hn1 hlt
        go_wp2
        go_ret
        exact ⟨ret_int hres.out.symm, hb03⟩
      · have t1 : (signD a != signD b) = false := by rw [bne_eq_false_iff_eq]; exact heq
        by_cases hz : signD a = 0
        · have hres : Hid (cmpD a b = 0) := by unfold Hid cmpD; rw [if_neg hn1, if_neg (by omega), if_neg (by omega), if_pos hz]
          have t2 : (signD a == 0) = true := by simpa using hz
          have t3 : decide (signD a < signD b) = false := by simp; omega
          have t4 : decide (signD b < signD a) = false := by simp; omega
          clear hn1 heq hz
          go_wp2
          go_ret
          exact ⟨ret_int hres.out.symm, hb03⟩
        · have hres : Hid (cmpD a b = signD a * sizeR (val BB a.m) a.e (val BB b.m) b.e) := by unfold Hid cmpD; rw [if_neg hn1, if_neg (by omega), if_neg (by omega), if_neg hz, cmpSize_R hMa hMb hl kl]
          have t2 : (signD a == 0) = false := by simpa using hz
          have hS : -1 ≤ sizeR (val BB a.m) a.e (val BB b.m) b.e ∧ sizeR (val BB a.m) a.e (val BB b.m) b.e ≤ 1 := by rw [← cmpSize_R hMa hMb hl kl]; exact cmpSize_le a b
          obtain ⟨aC, a64, ae1, ae2⟩ := mayD_limbs hMa
          obtain ⟨bC, b64, be1, be2⟩ := mayD_limbs hMb
          have hX : blen (val BB a.m) ≤ 900000 := Nat.le_trans (blen64 hl a64) (by omega)
          have hY : blen (val BB b.m) ≤ 900000 := Nat.le_trans (blen64 kl b64) (by omega)
          obtain ⟨z, hzz⟩ : ∃ z, z = sizeR (val BB a.m) a.e (val BB b.m) b.e := ⟨_, rfl⟩
          rw [← hzz] at hS hres
          have HZ := hide hzz
          obtain ⟨hs1, hs2⟩ := signD_cases a |> fun h => (show -1 ≤ signD a ∧ signD a ≤ 1 by rcases h with h | h | h <;> omega)
          have m1 : IntKind.i64.wrap (signD a * z) = signD a * z := by
            refine IntWalk.i64_in _ ?_
            have : signD a = -1 ∨ signD a = 1 := by omega
            rcases this with h | h <;> rw [h] <;> omega
          have M1 := hide m1
          clear hn1 heq hz hzz m1 aC bC hs1 hs2 hS
          go_upto_region 10 with fail
          have c0 := hA3.cellE hA3.lt 0 rfl
          have c1 := hA3.cellE hA3.lt 1 rfl
          have c2 := hA3.cellE hA3.lt 2 rfl
          have d0 := hB3.cellE hB3.lt 0 rfl
          have d1 := hB3.cellE hB3.lt 1 rfl
          have d2 := hB3.cellE hB3.lt 2 rfl
          go_region_held3 (fun w' => Below w3.heap.size w3 w') (first | exact (Below.refl _ _).drew | exact below_then (by assumption) hbA | exact below_then (by assumption) hbB | exact below_then (by assumption) hbC)
            (first
              | (go_at_call 88; (with_reducible refine (of_any (.agg #[.bool a.neg, .slice A n c, .int .i64 a.e]) a _ (hda3.below (by assumption)) (by omega)).mono ?_); rintro x wA ⟨vA, rfl, hvA, hbA⟩)
              | (go_at_call 88; (with_reducible refine (of_any (.agg #[.bool b.neg, .slice B m d, .int .i64 b.e]) b _ (hdb3.below (by assumption)) (by omega)).mono ?_); rintro x wB ⟨vB, rfl, hvB, hbB⟩)
              | (go_at_call 87; (with_reducible refine (sizeR_any vA vB a.neg (val BB a.m) a.e b.neg (val BB b.m) b.e _ ?_ ?_ hX hY ?_ ?_).mono ?_); (first | exact hvA | exact hvA.below hbB); (first | exact hvB | exact hvB.below hbA); (constructor <;> omega); (constructor <;> omega); rw [← HZ.out]; rintro x wC ⟨rfl, hbC⟩))
          all_goals clear c0 c1 c2 d0 d1 d2
          all_goals have hbF : Below w3.heap.size w3 _ := (by assumption)
          all_goals go_wp2
          all_goals go_ret
          all_goals exact ⟨ret_int (M1.out.trans hres.out.symm), below_then hb03 (by assumption)⟩
      · have hres : Hid (cmpD a b = 1) := by unfold Hid cmpD; rw [if_neg hn1, if_neg (by omega), if_pos hgt]
        have t1 : (signD a != signD b) = true := by rw [bne_iff_ne]; omega
        have t2 : decide (signD a < signD b) = false := by simp; omega
        have t3 : decide (signD b < signD a) = true := by simpa using hgt
        clear hn1 hgt
        go_wp2
        go_ret
        exact ⟨ret_int hres.out.symm, hb03⟩
    · have hM' : mayD b = false := by simpa using hMb
      have hres : Hid (cmpD a b = 0) := by unfold Hid cmpD; rw [if_pos (.inr hM')]
      clear hMb
      go_wp2_with fail
      refine (rmayD_any _ b _ hdb1).mono ?_
      rw [hM']
      rintro x w2 ⟨rfl, hb2⟩
      go_wp2
      go_ret
      exact ⟨ret_int hres.out.symm, below_then hb01 hb2⟩
  · have hM' : mayD a = false := by simpa using hMa
    have hres : Hid (cmpD a b = 0) := by unfold Hid cmpD; rw [if_pos (.inl hM')]
    clear hMa
    go_wp2_with fail
    refine (rmayD_any _ a _ hda).mono ?_
    rw [hM']
    rintro x w2 ⟨rfl, hb2⟩
    go_wp2
    go_ret
    exact ⟨ret_int hres.out.symm, below_then hb0 hb2⟩
set_option maxRecDepth 100000 in
set_option maxHeartbeats 1000000 in
theorem less_any (u v : Value) (a b : Dy) (w : World) (h : RdD w u a) (k : RdD w v b) :
    Calls Tryd.prog 51 #[u, v] w fun e w' => e = .returned (.bool (decide (cmpD a b < 0))) ∧ Below w.heap.size w w' := by
  have h' := h
  have k' := k
  obtain ⟨A, n, c, rfl, hr, hl, he1, he2⟩ := h
  obtain ⟨B, m, d, rfl, kr, kl, ke1, ke2⟩ := k
  obtain ⟨hA, hB, hb0⟩ := box_2 w [.bool a.neg, .slice A n c, .int .i64 a.e] [.bool b.neg, .slice B m d, .int .i64 b.e] 24 24
  go_enter Tryd.func51, Tryd.ntmps51
  go_upto_region 1 with fail
  generalize ((w.alloc (.cells #[.bool a.neg, .slice A n c, .int .i64 a.e] 24)).alloc (.cells #[.bool b.neg, .slice B m d, .int .i64 b.e] 24)) = W at *
  have hda := h'.below hb0
  have hdb := k'.below hb0
  clear h' k'
  have a0 := hA.cell 0 rfl
  have a1 := hA.cell 1 rfl
  have a2 := hA.cell 2 rfl
  have b0 := hB.cell 0 rfl
  have b1 := hB.cell 1 rfl
  have b2 := hB.cell 2 rfl
  go_wp2_with fail
  refine (rcmpD_any _ _ a b _ hda hdb).mono ?_
  rintro x w2 ⟨rfl, hb2⟩
  go_wp2
  go_ret
  exact ⟨rfl, below_then hb0 hb2⟩
end Go.Proofs.YtdnknokhcliikaaDoor
