/- Contracts of package dyad, part J: the inner product. Contracts of package dyad, part K: the inner sum, the inner difference. Printed by wip/mk_DyK.py. Contracts of package dyad, part L: Fit, Norm, Of, two, Add, Sub, Mul. Printed by wip/mk_DyL.py. -/
import Derived.Test.YtbpfnooloemieaaGreatDoorKitCx
import Derived.Deep.RegionHeld2
namespace Go.Proofs.YtbpfnooloemieaaGreatDoor
open Go.RowKit Pl
attribute [local go_sem ↓] Go.wp_at_zero Go.wp_at_succ

theorem mayD_rd {w : World} {A : Option Addr} {n c : Nat} {d : Dy} (h : RdN .u64 w A n c d.m) (hl : Lim BB d.m) (hm : mayD d = true) : R64 w (.slice A n c) (val BB d.m) :=
  ⟨A, n, c, rfl, by rw [limbs_of BB_gt1 hl (mayD_limbs hm).1 rfl]; exact h⟩
theorem blen_limb {xs : List Nat} (hl : Lim BB xs) : blen (val BB xs) ≤ 64 * xs.length := by
  rw [blen_le, ← pow_BB]
  exact val_lt hl
theorem mayD_blen {d : Dy} (hl : Lim BB d.m) (hm : mayD d = true) : blen (val BB d.m) ≤ 4096 := by
  exact Nat.le_trans (blen_limb hl) (by have := (mayD_limbs hm).2.1; omega)

end Go.Proofs.YtbpfnooloemieaaGreatDoor
namespace Go.Proofs.YtbpfnooloemieaaGreatDoor
open Go.RowKit Pl
attribute [local go_sem ↓] Go.wp_at_zero Go.wp_at_succ

/-- A sum of two above or below nought, the second's exponent not greater. -/
def sumO (a b : Dy) : Dy × Int :=
  if a.e = b.e ∨ a.e - b.e ≤ 4097 - (blen (val BB a.m) : Int) then
    if a.neg = b.neg then fitS a.neg (val BB a.m * 2 ^ (a.e - b.e).toNat + val BB b.m) b.e
    else if val BB b.m ≤ val BB a.m * 2 ^ (a.e - b.e).toNat then fitS a.neg (val BB a.m * 2 ^ (a.e - b.e).toNat - val BB b.m) b.e
    else fitS b.neg (val BB b.m - val BB a.m * 2 ^ (a.e - b.e).toNat) b.e
  else (Dy.zero, 2)
/-- The sum of two that may be. -/
def sumS (a b : Dy) : Dy × Int :=
  if a.m.length = 0 then (b, 0) else if b.m.length = 0 then (a, 0) else if a.e < b.e then sumO b a else sumO a b

set_option maxRecDepth 100000 in
set_option maxHeartbeats 8000000 in
theorem sum_any (u v : Value) (a b : Dy) (w : World) (h : RdD w u a) (k : RdD w v b) (ha : mayD a = true) (hb : mayD b = true) (hT : TabAt w) :
    Calls Tryz.prog 104 #[u, v] w (FitPost w (sumS a b)) := by
  have hd := h
  have kd := k
  obtain ⟨A, n, c, rfl, hr, hl, he1, he2⟩ := h
  obtain ⟨B, m, d, rfl, kr, kl, ke1, ke2⟩ := k
  have ra := mayD_rd hr hl ha
  have rb := mayD_rd kr kl hb
  have hXb := mayD_blen hl ha
  have hYb := mayD_blen kl hb
  obtain ⟨_, a64, ea1, ea2⟩ := mayD_limbs ha
  obtain ⟨_, b64, eb1, eb2⟩ := mayD_limbs hb
  obtain ⟨R, hR⟩ : ∃ R, R = sumS a b := ⟨_, rfl⟩
  rw [← hR]
  have hlen := hr.len
  have klen := kr.len
  obtain ⟨an, am, ae⟩ := a
  obtain ⟨bn, bm, be⟩ := b
  simp only at hr hl kr kl ea1 ea2 eb1 eb2 a64 b64 he1 he2 ke1 ke2 hlen klen hXb hYb ra rb
  have hcapA := hr.cap
  have hmaxA := hr.max
  have hcapB := kr.cap
  have hmaxB := kr.max
  unfold maxLen at hmaxA hmaxB
  obtain ⟨hA, hB, hC, hb0⟩ := box_3 w [.bool an, .slice A n c, .int .i64 ae] [.bool bn, .slice B m d, .int .i64 be] [.bool false, .slice none 0 0, .int .i64 0] 30 30 30
  have ra0 := ra.below hb0
  have rb0 := rb.below hb0
  have hd0 := hd.below hb0
  have kd0 := kd.below hb0
  have a0 := hA.cell 0 rfl
  have a1 := hA.cell 1 rfl
  have a2 := hA.cell 2 rfl
  have b0 := hB.cell 0 rfl
  have b1 := hB.cell 1 rfl
  have b2 := hB.cell 2 rfl
  have HT := hide hT
  clear hT hr kr hd kd ra rb

  rcases Nat.eq_zero_or_pos n with hn0 | hn0
  · have e0 : ((n : Int) == 0) = true := by rw [beq_iff_eq]; omega
    have HR : Hid (R = (⟨bn, bm, be⟩, 0)) := by
      unfold Hid; rw [hR]; unfold sumS
      rw [if_pos (show am.length = 0 by omega)]
    clear hR hn0
    go_enter Tryz.func104, Tryz.ntmps104
    go_upto_region 1 with fail
    generalize ((w.alloc (.cells #[.bool an, .slice A n c, .int .i64 ae] 30)).alloc (.cells #[.bool bn, .slice B m d, .int .i64 be] 30)).alloc (.cells #[.bool false, .slice none 0 0, .int .i64 0] 30) = W at *
    go_wp2_with fail
    refine (copied_any _ ⟨bn, bm, be⟩ _ kd0 (by simp only; omega)).mono ?_
    rintro e w1 ⟨⟨z, rfl, hz⟩, hb1⟩
    obtain ⟨A', n', c', rfl, hz1, hz2, hz3⟩ := hz
    simp only at hz1 hz2 hz3 ⊢
    have hC1 := hC.keep hb1
    have f0 := hC1.frozen 0
    have f1 := hC1.frozen 1
    have f2 := hC1.frozen 2
    have d0 := hC1.cell 0 rfl
    have d1 := hC1.cell 1 rfl
    have d2 := hC1.cell 2 rfl
    have hB9 := hC1.store3 (.bool bn) (.slice A' n' c') (.int .i64 be)
    have q0 := hB9.cell 0 rfl
    have q1 := hB9.cell 1 rfl
    have q2 := hB9.cell 2 rfl
    have HF := hide (And.intro (hz1.store3 hC1 (.bool bn) (.slice A' n' c') (.int .i64 be) (dy_no _ _ _ ⟨_, _, _, rfl⟩) (dy_no _ _ _ ⟨_, _, _, rfl⟩)) (below_store3 (below_then hb0 hb1) (show w.heap.size ≤ w.heap.size + 1 + 1 by omega) (.bool bn) (.slice A' n' c') (.int .i64 be)))
    clear hB9 hC1 hz1 hA hB hC hb0 hb1 ra0 rb0 hd0 kd0 a0 a1 a2 b0 b1 b2
    go_wp2
    exact bodyPost_ret (v := .agg #[.bool bn, .slice A' n' c', .int .i64 be]) (by simp [results, Tryz.results104, go_sem, q0, q1, q2]) rfl ⟨HF.out.2, .inl (by rw [HR.out]; exact ⟨rfl, _, rfl, _, _, _, rfl, HF.out.1, hz2, hz3⟩)⟩
  rcases Nat.eq_zero_or_pos m with hm0 | hm0
  · have e0 : ((m : Int) == 0) = true := by rw [beq_iff_eq]; omega
    have e9 : ((n : Int) == 0) = false := by rw [beq_eq_false_iff_ne]; omega
    have HR : Hid (R = (⟨an, am, ae⟩, 0)) := by
      unfold Hid; rw [hR]; unfold sumS
      rw [if_neg (show ¬ am.length = 0 by omega), if_pos (show bm.length = 0 by omega)]
    clear hR hm0
    go_enter Tryz.func104, Tryz.ntmps104
    go_upto_region 1 with fail
    generalize ((w.alloc (.cells #[.bool an, .slice A n c, .int .i64 ae] 30)).alloc (.cells #[.bool bn, .slice B m d, .int .i64 be] 30)).alloc (.cells #[.bool false, .slice none 0 0, .int .i64 0] 30) = W at *
    go_wp2_with fail
    refine (copied_any _ ⟨an, am, ae⟩ _ hd0 (by simp only; omega)).mono ?_
    rintro e w1 ⟨⟨z, rfl, hz⟩, hb1⟩
    obtain ⟨A', n', c', rfl, hz1, hz2, hz3⟩ := hz
    simp only at hz1 hz2 hz3 ⊢
    have hC1 := hC.keep hb1
    have f0 := hC1.frozen 0
    have f1 := hC1.frozen 1
    have f2 := hC1.frozen 2
    have d0 := hC1.cell 0 rfl
    have d1 := hC1.cell 1 rfl
    have d2 := hC1.cell 2 rfl
    have hB9 := hC1.store3 (.bool an) (.slice A' n' c') (.int .i64 ae)
    have q0 := hB9.cell 0 rfl
    have q1 := hB9.cell 1 rfl
    have q2 := hB9.cell 2 rfl
    have HF := hide (And.intro (hz1.store3 hC1 (.bool an) (.slice A' n' c') (.int .i64 ae) (dy_no _ _ _ ⟨_, _, _, rfl⟩) (dy_no _ _ _ ⟨_, _, _, rfl⟩)) (below_store3 (below_then hb0 hb1) (show w.heap.size ≤ w.heap.size + 1 + 1 by omega) (.bool an) (.slice A' n' c') (.int .i64 ae)))
    clear hB9 hC1 hz1 hA hB hC hb0 hb1 ra0 rb0 hd0 kd0 a0 a1 a2 b0 b1 b2
    go_wp2
    exact bodyPost_ret (v := .agg #[.bool an, .slice A' n' c', .int .i64 ae]) (by simp [results, Tryz.results104, go_sem, q0, q1, q2]) rfl ⟨HF.out.2, .inl (by rw [HR.out]; exact ⟨rfl, _, rfl, _, _, _, rfl, HF.out.1, hz2, hz3⟩)⟩
  have e0 : ((n : Int) == 0) = false := by rw [beq_eq_false_iff_ne]; omega
  have e1 : ((m : Int) == 0) = false := by rw [beq_eq_false_iff_ne]; omega
  have hsum : R = if ae < be then sumO ⟨bn, bm, be⟩ ⟨an, am, ae⟩ else sumO ⟨an, am, ae⟩ ⟨bn, bm, be⟩ := by
    rw [hR]; unfold sumS
    rw [if_neg (show ¬ am.length = 0 by omega), if_neg (show ¬ bm.length = 0 by omega)]
  clear hR hd0 kd0
  by_cases hlt : ae < be
  · rw [if_pos hlt] at hsum
    have dlt : decide (ae < be) = true := decide_eq_true hlt
    have fA0 := hA.frozen 0
    have fA1 := hA.frozen 1
    have fA2 := hA.frozen 2
    have fB0 := hB.frozen 0
    have fB1 := hB.frozen 1
    have fB2 := hB.frozen 2
    go_enter Tryz.func104, Tryz.ntmps104
    go_upto_region 1 with fail
    generalize ((w.alloc (.cells #[.bool an, .slice A n c, .int .i64 ae] 30)).alloc (.cells #[.bool bn, .slice B m d, .int .i64 be] 30)).alloc (.cells #[.bool false, .slice none 0 0, .int .i64 0] 30) = W at *
    go_upto_region 7 with fail
    have s1 := hA.store3 (.bool bn) (.slice B m d) (.int .i64 be)
    have s2 := hB.far3 (show w.heap.size + 1 ≠ w.heap.size by omega) (.bool bn) (.slice B m d) (.int .i64 be)
    have s3 := hC.far3 (show w.heap.size + 1 + 1 ≠ w.heap.size by omega) (.bool bn) (.slice B m d) (.int .i64 be)
    have s4 := below_store3 hb0 (Nat.le_refl w.heap.size) (.bool bn) (.slice B m d) (.int .i64 be)
    have s5 := ra0.store3 hA (.bool bn) (.slice B m d) (.int .i64 be) (dy_no _ _ _ ⟨_, _, _, rfl⟩) (dy_no _ _ _ ⟨_, _, _, rfl⟩)
    have s6 := rb0.store3 hA (.bool bn) (.slice B m d) (.int .i64 be) (dy_no _ _ _ ⟨_, _, _, rfl⟩) (dy_no _ _ _ ⟨_, _, _, rfl⟩)
    clear hA hB hC hb0 ra0 rb0 a0 a1 a2 b0 b1 b2 fA0 fA1 fA2 fB0 fB1 fB2 e0 e1 dlt
    generalize ((W.setCell ⟨w.heap.size, 0, none⟩ (.bool bn)).setCell ⟨w.heap.size, 1, none⟩ (.slice B m d)).setCell ⟨w.heap.size, 2, none⟩ (.int .i64 be) = W1 at *
    have hA2 := s1.far3 (show w.heap.size ≠ w.heap.size + 1 by omega) (.bool an) (.slice A n c) (.int .i64 ae)
    have hB2 := s2.store3 (.bool an) (.slice A n c) (.int .i64 ae)
    have hC2 := s3.far3 (show w.heap.size + 1 + 1 ≠ w.heap.size + 1 by omega) (.bool an) (.slice A n c) (.int .i64 ae)
    have hb2 := below_store3 s4 (show w.heap.size ≤ w.heap.size + 1 by omega) (.bool an) (.slice A n c) (.int .i64 ae)
    have ry := s5.store3 s2 (.bool an) (.slice A n c) (.int .i64 ae) (dy_no _ _ _ ⟨_, _, _, rfl⟩) (dy_no _ _ _ ⟨_, _, _, rfl⟩)
    have rx := s6.store3 s2 (.bool an) (.slice A n c) (.int .i64 ae) (dy_no _ _ _ ⟨_, _, _, rfl⟩) (dy_no _ _ _ ⟨_, _, _, rfl⟩)
    clear s1 s2 s3 s4 s5 s6
    generalize ((W1.setCell ⟨w.heap.size + 1, 0, none⟩ (.bool an)).setCell ⟨w.heap.size + 1, 1, none⟩ (.slice A n c)).setCell ⟨w.heap.size + 1, 2, none⟩ (.int .i64 ae) = W at *
    obtain ⟨X, eX⟩ : ∃ X, X = val BB bm := ⟨_, rfl⟩
    obtain ⟨Y, eY⟩ : ∃ Y, Y = val BB am := ⟨_, rfl⟩
    obtain ⟨k, hk⟩ : ∃ k : Nat, be - ae = (k : Int) := ⟨(be - ae).toNat, by omega⟩
    have HK : Hid (be - ae = (k : Int)) := hk
    obtain ⟨Q, eQ⟩ : ∃ Q, Q = X * 2 ^ k := ⟨_, rfl⟩
    have HS : Hid (R = if be = ae ∨ be - ae ≤ 4097 - (blen X : Int) then
        if bn = an then fitS bn (Q + Y) ae
        else if Y ≤ Q then fitS bn (Q - Y) ae
        else fitS an (Y - Q) ae
      else (Dy.zero, 2)) := by
      unfold Hid; rw [hsum, eQ, eX, eY]
      unfold sumO
      simp only
      rw [show (be - ae).toNat = k by omega]
    rw [← eX] at rx hYb
    rw [← eY] at ry hXb
    clear eX eY hsum
    have hle : ae ≤ be := by omega
    have hX3 : Hid (blen X ≤ 3000000) := by unfold Hid; omega
    have hY3 : Hid (blen Y ≤ 3000000) := by unfold Hid; omega
    have hY4 : Hid (blen Y ≤ 600000) := by unfold Hid; omega
    have hw1 : IntKind.i64.wrap (be - ae) = be - ae := IntWalk.i64_in _ (by omega)
    have hw2 : IntKind.i64.wrap (4097 - (blen X : Int)) = 4097 - (blen X : Int) := IntWalk.i64_in _ (by omega)
    obtain ⟨S0, hH, sD, sK, sS, ⟨x0, x1, x2⟩, ⟨y0, y1, y2⟩, ⟨⟨c0, z0⟩, ⟨c1, z1⟩, ⟨c2, z2⟩, f0, f1, f2⟩, SB0, SZ0, SR0⟩ := held_open [(.slice B m d, X), (.slice A n c, Y)] hA2 hB2 ⟨_, _, _, _, _, hC2⟩ hb2 (show w.heap.size ≠ w.heap.size + 1 + 1 by omega) (show w.heap.size + 1 ≠ w.heap.size + 1 + 1 by omega) (Nat.le_refl _) (show w.heap.size ≤ w.heap.size + 1 + 1 by omega)
      (fun p hp => by
        simp only [List.mem_cons, List.not_mem_nil, or_false] at hp
        rcases hp with rfl | rfl
        · exact rx
        · exact ry)
    have SB := hide SB0
    have SZ := hide SZ0
    have SX := hide (fun w' h => SR0 w' h (.slice B m d, X) (by simp))
    have SY := hide (fun w' h => SR0 w' h (.slice A n c, Y) (by simp))
    clear SB0 SZ0 SR0
    by_cases heq : be = ae
    · have d1 : (be == ae) = true := beq_iff_eq.2 heq
      have hnear : Hid (be = ae ∨ be - ae ≤ 4097 - (blen X : Int)) := .inl heq
      have hkb : k ≤ 4097 := by omega
      clear hk heq
      have a0 := hA2.cell 0 rfl
      have a1 := hA2.cell 1 rfl
      have a2 := hA2.cell 2 rfl
      have b0 := hB2.cell 0 rfl
      have b1 := hB2.cell 1 rfl
      have b2 := hB2.cell 2 rfl
      clear hH
      clear sD sK sS x0 x1 x2 y0 y1 y2 z0 z1 z2 f0 f1 f2 SB SZ SX SY
      go_quiet ((first
          | (go_at_call 106; exact quiet1 (sizeI _ X _ (rx.drewN _) hX3.out))
          | (go_at_call 117; exact quiet1 (must_yes _ _))))
      clear a0 a1 a2 b0 b1 b2
      have hA3 := hA2.drewN nq
      have hB3 := hB2.drewN nq
      have hC3 := hC2.drewN nq
      have hb3 := below_drewN hb2 nq
      have rx3 := rx.drewN nq
      have ry3 := ry.drewN nq
      clear hA2 hB2 hC2 hb2 rx ry d1
      generalize W.drewN nq = W3 at *
      have a0 := hA3.cell 0 rfl
      have a1 := hA3.cell 1 rfl
      have a2 := hA3.cell 2 rfl
      have b0 := hB3.cell 0 rfl
      have b1 := hB3.cell 1 rfl
      have b2 := hB3.cell 2 rfl
      go_wp2_with fail
      rw [HK.out]
      refine (leftI _ X _ rx3 hX3.out k (by omega)).mono ?_
      rw [← eQ]
      rintro z w4 ⟨⟨q, rfl, hq⟩, hb4⟩
      have hA4 := hA3.keep hb4
      have hB4 := hB3.keep hb4
      have hC4 := hC3.keep hb4
      have hb04 := hb3.trans (hb4.mono (Nat.le_of_lt hA3.lt))
      have ry4 := ry3.below hb4
      have hQb : Hid (blen Q ≤ 600000) := by
        unfold Hid
        rw [eQ]
        rcases Nat.eq_zero_or_pos X with hx0 | hx0
        · rw [hx0, Nat.zero_mul]; exact Nat.zero_le _
        · rw [blen_mul_pow (by omega)]; omega
      have hQ3 : Hid (blen Q ≤ 3000000) := Nat.le_trans hQb.out (by omega)
      clear hA3 hB3 hC3 hb3 rx3 ry3 hb4 a0 a1 a2 b0 b1 b2 eQ
      obtain ⟨T0, hH4, sD, sK, sS, ⟨x0, x1, x2⟩, ⟨y0, y1, y2⟩, ⟨⟨c0, z0⟩, ⟨c1, z1⟩, ⟨c2, z2⟩, f0, f1, f2⟩, SB0, SZ0, SR0⟩ := held_open [(q, Q), (.slice A n c, Y)] hA4 hB4 ⟨_, _, _, _, _, hC4⟩ hb04 (show w.heap.size ≠ w.heap.size + 1 + 1 by omega) (show w.heap.size + 1 ≠ w.heap.size + 1 + 1 by omega) (Nat.le_refl _) (show w.heap.size ≤ w.heap.size + 1 + 1 by omega)
        (fun p hp => by
          simp only [List.mem_cons, List.not_mem_nil, or_false] at hp
          rcases hp with rfl | rfl
          · exact hq
          · exact ry4)
      have SB := hide SB0
      have SZ := hide SZ0
      have SX := hide (fun w' h => SR0 w' h (q, Q) (by simp))
      have SY := hide (fun w' h => SR0 w' h (.slice A n c, Y) (by simp))
      clear SB0 SZ0 SR0
      clear hA4 hB4 hC4 hb04 hq ry4
      by_cases hs : bn = an
      · have d5 : (bn == an) = true := beq_iff_eq.2 hs
        have gx0 := x0 _ hH4
        have gy0 := y0 _ hH4
        go_upto_region 10 with fail
        clear gx0 gy0
        have hEb : Hid (blen (Q + Y) ≤ 640000) := Nat.le_trans (blen_plus hQb.out hY4.out) (by omega)
        have HL : Hid (R = fitS bn (Q + Y) ae) := by unfold Hid; rw [HS.out, if_pos hnear.out, if_pos hs]
        clear HS hnear hw1 hw2 HK hkb hs
        go_region_held2 (Kept T0) (first | exact sD _ (by assumption) | assumption | exact sK _ _ (by assumption) hbA | exact sK _ _ (by assumption) hbF | exact sS _ (by assumption) _ _ _ _ _)
          (first
            | (go_at_call 127; (with_reducible refine (plusI _ _ Q Y _ (SX.out _ (by assumption)) (SY.out _ (by assumption)) hQ3.out hY3.out).mono ?_); rintro z wA ⟨⟨p, rfl, hp⟩, hbA⟩)
            | (go_at_call 118; (with_reducible refine (fitV _ _ (Q + Y) _ _ hp hEb.out (by omega) (by omega) (HT.out.below (SB.out _ (by assumption)))).mono ?_); rintro z wF ⟨hbF, hcase⟩; rcases hcase with ⟨h0, v, rfl, hv⟩ | ⟨h0, hz, rfl⟩; rotate_left; (exact ⟨rfl, SB.out _ (sK _ _ (by assumption) hbF), .inr (by rw [HL.out]; exact ⟨h0, hz, rfl⟩)⟩); obtain ⟨A', n', c', rfl, hv1, hv2, hv3⟩ := hv))
        all_goals
          have hKF := sK _ _ (sK _ _ (sD _ hH4) hbA) hbF
          obtain ⟨g9, A9, n9, c9, e9, hz9⟩ := (SZ.out _ hKF).get
          rw [← HL.out] at h0 hv1 hv2 hv3 ⊢
          have hB9 := hz9.store3 (.bool R.1.neg) (.slice A' n' c') (.int .i64 R.1.e)
          have q0 := hB9.cell 0 rfl
          have q1 := hB9.cell 1 rfl
          have q2 := hB9.cell 2 rfl
          have HF := hide (And.intro (hv1.store3 hz9 (.bool R.1.neg) (.slice A' n' c') (.int .i64 R.1.e) (dy_no _ _ _ ⟨_, _, _, rfl⟩) (dy_no _ _ _ ⟨_, _, _, rfl⟩)) (SB.out _ (sS _ hKF R.1.neg A' n' c' R.1.e)))
          clear hB9 hz9 hv1 hKF sD sK sS x0 x1 x2 y0 y1 y2 z0 z1 z2 f0 f1 f2
          go_wp2
          exact bodyPost_ret (v := .agg #[.bool R.1.neg, .slice A' n' c', .int .i64 R.1.e]) (by simp [results, Tryz.results104, go_sem, q0, q1, q2]) rfl ⟨HF.out.2, .inl ⟨h0, _, rfl, _, _, _, rfl, HF.out.1, hv2, hv3⟩⟩
      · have d5 : (bn == an) = false := beq_eq_false_iff_ne.2 hs
        have gx0 := x0 _ hH4
        have gy0 := y0 _ hH4
        have gy1 := y1 _ hH4
        go_wp2_with fail
        refine (orderI _ _ Q Y _ (SX.out _ hH4) (SY.out _ hH4)).mono ?_
        rintro z w5 ⟨rfl, hb5⟩
        have hH5 := sK _ _ hH4 hb5
        clear gx0 gy0 gy1
        by_cases hge : Y ≤ Q
        · have hc : decide (cmpN Q Y ≥ 0) = true := by unfold cmpN; rw [if_neg (by omega)]; split <;> rfl
          obtain ⟨z, hz⟩ : ∃ z, z = cmpN Q Y := ⟨_, rfl⟩
          rw [← hz] at hc ⊢
          clear hz
          go_upto_region 12 with fail
          have hEb : Hid (blen (Q - Y) ≤ 640000) := Nat.le_trans (Nat.le_trans (blen_mono (Nat.sub_le _ _)) hQb.out) (by omega)
          have HL : Hid (R = fitS bn (Q - Y) ae) := by unfold Hid; rw [HS.out, if_pos hnear.out, if_neg hs, if_pos hge]
          clear HS hnear hw1 hw2 HK hkb hs
          go_region_held2 (Kept T0) (first | exact sD _ (by assumption) | assumption | exact sK _ _ (by assumption) hbA | exact sK _ _ (by assumption) hbF | exact sS _ (by assumption) _ _ _ _ _)
            (first
              | (go_at_call 128; (with_reducible refine (minusI _ _ Q Y _ (SX.out _ (by assumption)) (SY.out _ (by assumption)) hQ3.out hge).mono ?_); rintro z wA ⟨⟨p, rfl, hp⟩, hbA⟩)
              | (go_at_call 118; (with_reducible refine (fitV _ _ (Q - Y) _ _ hp hEb.out (by omega) (by omega) (HT.out.below (SB.out _ (by assumption)))).mono ?_); rintro z wF ⟨hbF, hcase⟩; rcases hcase with ⟨h0, v, rfl, hv⟩ | ⟨h0, hz, rfl⟩; rotate_left; (exact ⟨rfl, SB.out _ (sK _ _ (by assumption) hbF), .inr (by rw [HL.out]; exact ⟨h0, hz, rfl⟩)⟩); obtain ⟨A', n', c', rfl, hv1, hv2, hv3⟩ := hv))
          all_goals
            have hKF := sK _ _ (sK _ _ (sD _ hH5) hbA) hbF
            obtain ⟨g9, A9, n9, c9, e9, hz9⟩ := (SZ.out _ hKF).get
            rw [← HL.out] at h0 hv1 hv2 hv3 ⊢
            have hB9 := hz9.store3 (.bool R.1.neg) (.slice A' n' c') (.int .i64 R.1.e)
            have q0 := hB9.cell 0 rfl
            have q1 := hB9.cell 1 rfl
            have q2 := hB9.cell 2 rfl
            have HF := hide (And.intro (hv1.store3 hz9 (.bool R.1.neg) (.slice A' n' c') (.int .i64 R.1.e) (dy_no _ _ _ ⟨_, _, _, rfl⟩) (dy_no _ _ _ ⟨_, _, _, rfl⟩)) (SB.out _ (sS _ hKF R.1.neg A' n' c' R.1.e)))
            clear hB9 hz9 hv1 hKF sD sK sS x0 x1 x2 y0 y1 y2 z0 z1 z2 f0 f1 f2
            go_wp2
            exact bodyPost_ret (v := .agg #[.bool R.1.neg, .slice A' n' c', .int .i64 R.1.e]) (by simp [results, Tryz.results104, go_sem, q0, q1, q2]) rfl ⟨HF.out.2, .inl ⟨h0, _, rfl, _, _, _, rfl, HF.out.1, hv2, hv3⟩⟩
        · have hge : Q < Y := by omega
          rw [cmpN_lt0 hge]
          go_upto_region 13 with fail
          have hEb : Hid (blen (Y - Q) ≤ 640000) := Nat.le_trans (Nat.le_trans (blen_mono (Nat.sub_le _ _)) hY4.out) (by omega)
          have HL : Hid (R = fitS an (Y - Q) ae) := by unfold Hid; rw [HS.out, if_pos hnear.out, if_neg hs, if_neg (by omega)]
          clear HS hnear hw1 hw2 HK hkb hs
          go_region_held2 (Kept T0) (first | exact sD _ (by assumption) | assumption | exact sK _ _ (by assumption) hbA | exact sK _ _ (by assumption) hbF | exact sS _ (by assumption) _ _ _ _ _)
            (first
              | (go_at_call 128; (with_reducible refine (minusI _ _ Y Q _ (SY.out _ (by assumption)) (SX.out _ (by assumption)) hY3.out (Nat.le_of_lt hge)).mono ?_); rintro z wA ⟨⟨p, rfl, hp⟩, hbA⟩)
              | (go_at_call 118; (with_reducible refine (fitV _ _ (Y - Q) _ _ hp hEb.out (by omega) (by omega) (HT.out.below (SB.out _ (by assumption)))).mono ?_); rintro z wF ⟨hbF, hcase⟩; rcases hcase with ⟨h0, v, rfl, hv⟩ | ⟨h0, hz, rfl⟩; rotate_left; (exact ⟨rfl, SB.out _ (sK _ _ (by assumption) hbF), .inr (by rw [HL.out]; exact ⟨h0, hz, rfl⟩)⟩); obtain ⟨A', n', c', rfl, hv1, hv2, hv3⟩ := hv))
          all_goals
            have hKF := sK _ _ (sK _ _ (sD _ hH5) hbA) hbF
            obtain ⟨g9, A9, n9, c9, e9, hz9⟩ := (SZ.out _ hKF).get
            rw [← HL.out] at h0 hv1 hv2 hv3 ⊢
            have hB9 := hz9.store3 (.bool R.1.neg) (.slice A' n' c') (.int .i64 R.1.e)
            have q0 := hB9.cell 0 rfl
            have q1 := hB9.cell 1 rfl
            have q2 := hB9.cell 2 rfl
            have HF := hide (And.intro (hv1.store3 hz9 (.bool R.1.neg) (.slice A' n' c') (.int .i64 R.1.e) (dy_no _ _ _ ⟨_, _, _, rfl⟩) (dy_no _ _ _ ⟨_, _, _, rfl⟩)) (SB.out _ (sS _ hKF R.1.neg A' n' c' R.1.e)))
            clear hB9 hz9 hv1 hKF sD sK sS x0 x1 x2 y0 y1 y2 z0 z1 z2 f0 f1 f2
            go_wp2
            exact bodyPost_ret (v := .agg #[.bool R.1.neg, .slice A' n' c', .int .i64 R.1.e]) (by simp [results, Tryz.results104, go_sem, q0, q1, q2]) rfl ⟨HF.out.2, .inl ⟨h0, _, rfl, _, _, _, rfl, HF.out.1, hv2, hv3⟩⟩
    by_cases hfar : be - ae ≤ 4097 - (blen X : Int)
    · have d1 : (be == ae) = false := beq_eq_false_iff_ne.2 heq
      have d2 : decide (be - ae ≤ 4097 - (blen X : Int)) = true := decide_eq_true hfar
      have hnear : Hid (be = ae ∨ be - ae ≤ 4097 - (blen X : Int)) := .inr hfar
      have hkb : k ≤ 4097 := by omega
      clear hk heq hfar
      have a0 := hA2.cell 0 rfl
      have a1 := hA2.cell 1 rfl
      have a2 := hA2.cell 2 rfl
      have b0 := hB2.cell 0 rfl
      have b1 := hB2.cell 1 rfl
      have b2 := hB2.cell 2 rfl
      clear hH
      clear sD sK sS x0 x1 x2 y0 y1 y2 z0 z1 z2 f0 f1 f2 SB SZ SX SY
      go_quiet ((first
          | (go_at_call 106; exact quiet1 (sizeI _ X _ (rx.drewN _) hX3.out))
          | (go_at_call 117; exact quiet1 (must_yes _ _))))
      clear a0 a1 a2 b0 b1 b2
      have hA3 := hA2.drewN nq
      have hB3 := hB2.drewN nq
      have hC3 := hC2.drewN nq
      have hb3 := below_drewN hb2 nq
      have rx3 := rx.drewN nq
      have ry3 := ry.drewN nq
      clear hA2 hB2 hC2 hb2 rx ry d1
      generalize W.drewN nq = W3 at *
      have a0 := hA3.cell 0 rfl
      have a1 := hA3.cell 1 rfl
      have a2 := hA3.cell 2 rfl
      have b0 := hB3.cell 0 rfl
      have b1 := hB3.cell 1 rfl
      have b2 := hB3.cell 2 rfl
      go_wp2_with fail
      rw [HK.out]
      refine (leftI _ X _ rx3 hX3.out k (by omega)).mono ?_
      rw [← eQ]
      rintro z w4 ⟨⟨q, rfl, hq⟩, hb4⟩
      have hA4 := hA3.keep hb4
      have hB4 := hB3.keep hb4
      have hC4 := hC3.keep hb4
      have hb04 := hb3.trans (hb4.mono (Nat.le_of_lt hA3.lt))
      have ry4 := ry3.below hb4
      have hQb : Hid (blen Q ≤ 600000) := by
        unfold Hid
        rw [eQ]
        rcases Nat.eq_zero_or_pos X with hx0 | hx0
        · rw [hx0, Nat.zero_mul]; exact Nat.zero_le _
        · rw [blen_mul_pow (by omega)]; omega
      have hQ3 : Hid (blen Q ≤ 3000000) := Nat.le_trans hQb.out (by omega)
      clear hA3 hB3 hC3 hb3 rx3 ry3 hb4 a0 a1 a2 b0 b1 b2 eQ
      obtain ⟨T0, hH4, sD, sK, sS, ⟨x0, x1, x2⟩, ⟨y0, y1, y2⟩, ⟨⟨c0, z0⟩, ⟨c1, z1⟩, ⟨c2, z2⟩, f0, f1, f2⟩, SB0, SZ0, SR0⟩ := held_open [(q, Q), (.slice A n c, Y)] hA4 hB4 ⟨_, _, _, _, _, hC4⟩ hb04 (show w.heap.size ≠ w.heap.size + 1 + 1 by omega) (show w.heap.size + 1 ≠ w.heap.size + 1 + 1 by omega) (Nat.le_refl _) (show w.heap.size ≤ w.heap.size + 1 + 1 by omega)
        (fun p hp => by
          simp only [List.mem_cons, List.not_mem_nil, or_false] at hp
          rcases hp with rfl | rfl
          · exact hq
          · exact ry4)
      have SB := hide SB0
      have SZ := hide SZ0
      have SX := hide (fun w' h => SR0 w' h (q, Q) (by simp))
      have SY := hide (fun w' h => SR0 w' h (.slice A n c, Y) (by simp))
      clear SB0 SZ0 SR0
      clear hA4 hB4 hC4 hb04 hq ry4
      by_cases hs : bn = an
      · have d5 : (bn == an) = true := beq_iff_eq.2 hs
        have gx0 := x0 _ hH4
        have gy0 := y0 _ hH4
        go_upto_region 10 with fail
        clear gx0 gy0
        have hEb : Hid (blen (Q + Y) ≤ 640000) := Nat.le_trans (blen_plus hQb.out hY4.out) (by omega)
        have HL : Hid (R = fitS bn (Q + Y) ae) := by unfold Hid; rw [HS.out, if_pos hnear.out, if_pos hs]
        clear HS hnear hw1 hw2 HK hkb hs
        go_region_held2 (Kept T0) (first | exact sD _ (by assumption) | assumption | exact sK _ _ (by assumption) hbA | exact sK _ _ (by assumption) hbF | exact sS _ (by assumption) _ _ _ _ _)
          (first
            | (go_at_call 127; (with_reducible refine (plusI _ _ Q Y _ (SX.out _ (by assumption)) (SY.out _ (by assumption)) hQ3.out hY3.out).mono ?_); rintro z wA ⟨⟨p, rfl, hp⟩, hbA⟩)
            | (go_at_call 118; (with_reducible refine (fitV _ _ (Q + Y) _ _ hp hEb.out (by omega) (by omega) (HT.out.below (SB.out _ (by assumption)))).mono ?_); rintro z wF ⟨hbF, hcase⟩; rcases hcase with ⟨h0, v, rfl, hv⟩ | ⟨h0, hz, rfl⟩; rotate_left; (exact ⟨rfl, SB.out _ (sK _ _ (by assumption) hbF), .inr (by rw [HL.out]; exact ⟨h0, hz, rfl⟩)⟩); obtain ⟨A', n', c', rfl, hv1, hv2, hv3⟩ := hv))
        all_goals
          have hKF := sK _ _ (sK _ _ (sD _ hH4) hbA) hbF
          obtain ⟨g9, A9, n9, c9, e9, hz9⟩ := (SZ.out _ hKF).get
          rw [← HL.out] at h0 hv1 hv2 hv3 ⊢
          have hB9 := hz9.store3 (.bool R.1.neg) (.slice A' n' c') (.int .i64 R.1.e)
          have q0 := hB9.cell 0 rfl
          have q1 := hB9.cell 1 rfl
          have q2 := hB9.cell 2 rfl
          have HF := hide (And.intro (hv1.store3 hz9 (.bool R.1.neg) (.slice A' n' c') (.int .i64 R.1.e) (dy_no _ _ _ ⟨_, _, _, rfl⟩) (dy_no _ _ _ ⟨_, _, _, rfl⟩)) (SB.out _ (sS _ hKF R.1.neg A' n' c' R.1.e)))
          clear hB9 hz9 hv1 hKF sD sK sS x0 x1 x2 y0 y1 y2 z0 z1 z2 f0 f1 f2
          go_wp2
          exact bodyPost_ret (v := .agg #[.bool R.1.neg, .slice A' n' c', .int .i64 R.1.e]) (by simp [results, Tryz.results104, go_sem, q0, q1, q2]) rfl ⟨HF.out.2, .inl ⟨h0, _, rfl, _, _, _, rfl, HF.out.1, hv2, hv3⟩⟩
      · have d5 : (bn == an) = false := beq_eq_false_iff_ne.2 hs
        have gx0 := x0 _ hH4
        have gy0 := y0 _ hH4
        have gy1 := y1 _ hH4
        go_wp2_with fail
        refine (orderI _ _ Q Y _ (SX.out _ hH4) (SY.out _ hH4)).mono ?_
        rintro z w5 ⟨rfl, hb5⟩
        have hH5 := sK _ _ hH4 hb5
        clear gx0 gy0 gy1
        by_cases hge : Y ≤ Q
        · have hc : decide (cmpN Q Y ≥ 0) = true := by unfold cmpN; rw [if_neg (by omega)]; split <;> rfl
          obtain ⟨z, hz⟩ : ∃ z, z = cmpN Q Y := ⟨_, rfl⟩
          rw [← hz] at hc ⊢
          clear hz
          go_upto_region 12 with fail
          have hEb : Hid (blen (Q - Y) ≤ 640000) := Nat.le_trans (Nat.le_trans (blen_mono (Nat.sub_le _ _)) hQb.out) (by omega)
          have HL : Hid (R = fitS bn (Q - Y) ae) := by unfold Hid; rw [HS.out, if_pos hnear.out, if_neg hs, if_pos hge]
          clear HS hnear hw1 hw2 HK hkb hs
          go_region_held2 (Kept T0) (first | exact sD _ (by assumption) | assumption | exact sK _ _ (by assumption) hbA | exact sK _ _ (by assumption) hbF | exact sS _ (by assumption) _ _ _ _ _)
            (first
              | (go_at_call 128; (with_reducible refine (minusI _ _ Q Y _ (SX.out _ (by assumption)) (SY.out _ (by assumption)) hQ3.out hge).mono ?_); rintro z wA ⟨⟨p, rfl, hp⟩, hbA⟩)
              | (go_at_call 118; (with_reducible refine (fitV _ _ (Q - Y) _ _ hp hEb.out (by omega) (by omega) (HT.out.below (SB.out _ (by assumption)))).mono ?_); rintro z wF ⟨hbF, hcase⟩; rcases hcase with ⟨h0, v, rfl, hv⟩ | ⟨h0, hz, rfl⟩; rotate_left; (exact ⟨rfl, SB.out _ (sK _ _ (by assumption) hbF), .inr (by rw [HL.out]; exact ⟨h0, hz, rfl⟩)⟩); obtain ⟨A', n', c', rfl, hv1, hv2, hv3⟩ := hv))
          all_goals
            have hKF := sK _ _ (sK _ _ (sD _ hH5) hbA) hbF
            obtain ⟨g9, A9, n9, c9, e9, hz9⟩ := (SZ.out _ hKF).get
            rw [← HL.out] at h0 hv1 hv2 hv3 ⊢
            have hB9 := hz9.store3 (.bool R.1.neg) (.slice A' n' c') (.int .i64 R.1.e)
            have q0 := hB9.cell 0 rfl
            have q1 := hB9.cell 1 rfl
            have q2 := hB9.cell 2 rfl
            have HF := hide (And.intro (hv1.store3 hz9 (.bool R.1.neg) (.slice A' n' c') (.int .i64 R.1.e) (dy_no _ _ _ ⟨_, _, _, rfl⟩) (dy_no _ _ _ ⟨_, _, _, rfl⟩)) (SB.out _ (sS _ hKF R.1.neg A' n' c' R.1.e)))
            clear hB9 hz9 hv1 hKF sD sK sS x0 x1 x2 y0 y1 y2 z0 z1 z2 f0 f1 f2
            go_wp2
            exact bodyPost_ret (v := .agg #[.bool R.1.neg, .slice A' n' c', .int .i64 R.1.e]) (by simp [results, Tryz.results104, go_sem, q0, q1, q2]) rfl ⟨HF.out.2, .inl ⟨h0, _, rfl, _, _, _, rfl, HF.out.1, hv2, hv3⟩⟩
        · have hge : Q < Y := by omega
          rw [cmpN_lt0 hge]
          go_upto_region 13 with fail
          have hEb : Hid (blen (Y - Q) ≤ 640000) := Nat.le_trans (Nat.le_trans (blen_mono (Nat.sub_le _ _)) hY4.out) (by omega)
          have HL : Hid (R = fitS an (Y - Q) ae) := by unfold Hid; rw [HS.out, if_pos hnear.out, if_neg hs, if_neg (by omega)]
          clear HS hnear hw1 hw2 HK hkb hs
          go_region_held2 (Kept T0) (first | exact sD _ (by assumption) | assumption | exact sK _ _ (by assumption) hbA | exact sK _ _ (by assumption) hbF | exact sS _ (by assumption) _ _ _ _ _)
            (first
              | (go_at_call 128; (with_reducible refine (minusI _ _ Y Q _ (SY.out _ (by assumption)) (SX.out _ (by assumption)) hY3.out (Nat.le_of_lt hge)).mono ?_); rintro z wA ⟨⟨p, rfl, hp⟩, hbA⟩)
              | (go_at_call 118; (with_reducible refine (fitV _ _ (Y - Q) _ _ hp hEb.out (by omega) (by omega) (HT.out.below (SB.out _ (by assumption)))).mono ?_); rintro z wF ⟨hbF, hcase⟩; rcases hcase with ⟨h0, v, rfl, hv⟩ | ⟨h0, hz, rfl⟩; rotate_left; (exact ⟨rfl, SB.out _ (sK _ _ (by assumption) hbF), .inr (by rw [HL.out]; exact ⟨h0, hz, rfl⟩)⟩); obtain ⟨A', n', c', rfl, hv1, hv2, hv3⟩ := hv))
          all_goals
            have hKF := sK _ _ (sK _ _ (sD _ hH5) hbA) hbF
            obtain ⟨g9, A9, n9, c9, e9, hz9⟩ := (SZ.out _ hKF).get
            rw [← HL.out] at h0 hv1 hv2 hv3 ⊢
            have hB9 := hz9.store3 (.bool R.1.neg) (.slice A' n' c') (.int .i64 R.1.e)
            have q0 := hB9.cell 0 rfl
            have q1 := hB9.cell 1 rfl
            have q2 := hB9.cell 2 rfl
            have HF := hide (And.intro (hv1.store3 hz9 (.bool R.1.neg) (.slice A' n' c') (.int .i64 R.1.e) (dy_no _ _ _ ⟨_, _, _, rfl⟩) (dy_no _ _ _ ⟨_, _, _, rfl⟩)) (SB.out _ (sS _ hKF R.1.neg A' n' c' R.1.e)))
            clear hB9 hz9 hv1 hKF sD sK sS x0 x1 x2 y0 y1 y2 z0 z1 z2 f0 f1 f2
            go_wp2
            exact bodyPost_ret (v := .agg #[.bool R.1.neg, .slice A' n' c', .int .i64 R.1.e]) (by simp [results, Tryz.results104, go_sem, q0, q1, q2]) rfl ⟨HF.out.2, .inl ⟨h0, _, rfl, _, _, _, rfl, HF.out.1, hv2, hv3⟩⟩
    · have HL : Hid (R = (Dy.zero, 2)) := by
        unfold Hid; rw [HS.out, if_neg (by rintro (h | h) <;> omega)]
      have d1 : (be == ae) = false := beq_eq_false_iff_ne.2 heq
      have d2 : decide (be - ae ≤ 4097 - (blen X : Int)) = false := decide_eq_false hfar
      clear hk HS HK heq hfar
      go_region_held2 (Kept S0) (first | exact sD _ (by assumption) | assumption | exact sK _ _ (by assumption) hbA | exact sK _ _ (by assumption) hbF | exact sS _ (by assumption) _ _ _ _ _)
        (first
          | (go_at_call 106; (with_reducible refine (sizeI _ X _ (SX.out _ (by assumption)) hX3.out).mono ?_); rintro z w' ⟨rfl, rfl⟩)
          | (go_at_call 117; (with_reducible refine (must_two _ _ _).mono ?_); rintro z wM (⟨hM, rfl, rfl⟩ | ⟨hM, rfl, rfl⟩); rotate_left; (exact ⟨rfl, SB.out _ (by assumption), .inr (by rw [HL.out]; exact ⟨by decide, rfl, rfl⟩)⟩)))
      all_goals exact absurd hM (by decide)
  · rw [if_neg hlt] at hsum
    have dlt : decide (ae < be) = false := decide_eq_false hlt
    go_enter Tryz.func104, Tryz.ntmps104
    go_upto_region 1 with fail
    generalize ((w.alloc (.cells #[.bool an, .slice A n c, .int .i64 ae] 30)).alloc (.cells #[.bool bn, .slice B m d, .int .i64 be] 30)).alloc (.cells #[.bool false, .slice none 0 0, .int .i64 0] 30) = W at *
    go_upto_region 7 with fail
    clear a0 a1 a2 b0 b1 b2 e0 e1 dlt
    have hA2 := hA
    have hB2 := hB
    have hC2 := hC
    have hb2 := hb0
    have rx := ra0
    have ry := rb0
    clear hA hB hC hb0 ra0 rb0
    obtain ⟨X, eX⟩ : ∃ X, X = val BB am := ⟨_, rfl⟩
    obtain ⟨Y, eY⟩ : ∃ Y, Y = val BB bm := ⟨_, rfl⟩
    obtain ⟨k, hk⟩ : ∃ k : Nat, ae - be = (k : Int) := ⟨(ae - be).toNat, by omega⟩
    have HK : Hid (ae - be = (k : Int)) := hk
    obtain ⟨Q, eQ⟩ : ∃ Q, Q = X * 2 ^ k := ⟨_, rfl⟩
    have HS : Hid (R = if ae = be ∨ ae - be ≤ 4097 - (blen X : Int) then
        if an = bn then fitS an (Q + Y) be
        else if Y ≤ Q then fitS an (Q - Y) be
        else fitS bn (Y - Q) be
      else (Dy.zero, 2)) := by
      unfold Hid; rw [hsum, eQ, eX, eY]
      unfold sumO
      simp only
      rw [show (ae - be).toNat = k by omega]
    rw [← eX] at rx hXb
    rw [← eY] at ry hYb
    clear eX eY hsum
    have hle : be ≤ ae := by omega
    have hX3 : Hid (blen X ≤ 3000000) := by unfold Hid; omega
    have hY3 : Hid (blen Y ≤ 3000000) := by unfold Hid; omega
    have hY4 : Hid (blen Y ≤ 600000) := by unfold Hid; omega
    have hw1 : IntKind.i64.wrap (ae - be) = ae - be := IntWalk.i64_in _ (by omega)
    have hw2 : IntKind.i64.wrap (4097 - (blen X : Int)) = 4097 - (blen X : Int) := IntWalk.i64_in _ (by omega)
    obtain ⟨S0, hH, sD, sK, sS, ⟨x0, x1, x2⟩, ⟨y0, y1, y2⟩, ⟨⟨c0, z0⟩, ⟨c1, z1⟩, ⟨c2, z2⟩, f0, f1, f2⟩, SB0, SZ0, SR0⟩ := held_open [(.slice A n c, X), (.slice B m d, Y)] hA2 hB2 ⟨_, _, _, _, _, hC2⟩ hb2 (show w.heap.size ≠ w.heap.size + 1 + 1 by omega) (show w.heap.size + 1 ≠ w.heap.size + 1 + 1 by omega) (Nat.le_refl _) (show w.heap.size ≤ w.heap.size + 1 + 1 by omega)
      (fun p hp => by
        simp only [List.mem_cons, List.not_mem_nil, or_false] at hp
        rcases hp with rfl | rfl
        · exact rx
        · exact ry)
    have SB := hide SB0
    have SZ := hide SZ0
    have SX := hide (fun w' h => SR0 w' h (.slice A n c, X) (by simp))
    have SY := hide (fun w' h => SR0 w' h (.slice B m d, Y) (by simp))
    clear SB0 SZ0 SR0
    by_cases heq : ae = be
    · have d1 : (ae == be) = true := beq_iff_eq.2 heq
      have hnear : Hid (ae = be ∨ ae - be ≤ 4097 - (blen X : Int)) := .inl heq
      have hkb : k ≤ 4097 := by omega
      clear hk heq
      have a0 := hA2.cell 0 rfl
      have a1 := hA2.cell 1 rfl
      have a2 := hA2.cell 2 rfl
      have b0 := hB2.cell 0 rfl
      have b1 := hB2.cell 1 rfl
      have b2 := hB2.cell 2 rfl
      clear hH
      clear sD sK sS x0 x1 x2 y0 y1 y2 z0 z1 z2 f0 f1 f2 SB SZ SX SY
      go_quiet ((first
          | (go_at_call 106; exact quiet1 (sizeI _ X _ (rx.drewN _) hX3.out))
          | (go_at_call 117; exact quiet1 (must_yes _ _))))
      clear a0 a1 a2 b0 b1 b2
      have hA3 := hA2.drewN nq
      have hB3 := hB2.drewN nq
      have hC3 := hC2.drewN nq
      have hb3 := below_drewN hb2 nq
      have rx3 := rx.drewN nq
      have ry3 := ry.drewN nq
      clear hA2 hB2 hC2 hb2 rx ry d1
      generalize W.drewN nq = W3 at *
      have a0 := hA3.cell 0 rfl
      have a1 := hA3.cell 1 rfl
      have a2 := hA3.cell 2 rfl
      have b0 := hB3.cell 0 rfl
      have b1 := hB3.cell 1 rfl
      have b2 := hB3.cell 2 rfl
      go_wp2_with fail
      rw [HK.out]
      refine (leftI _ X _ rx3 hX3.out k (by omega)).mono ?_
      rw [← eQ]
      rintro z w4 ⟨⟨q, rfl, hq⟩, hb4⟩
      have hA4 := hA3.keep hb4
      have hB4 := hB3.keep hb4
      have hC4 := hC3.keep hb4
      have hb04 := hb3.trans (hb4.mono (Nat.le_of_lt hA3.lt))
      have ry4 := ry3.below hb4
      have hQb : Hid (blen Q ≤ 600000) := by
        unfold Hid
        rw [eQ]
        rcases Nat.eq_zero_or_pos X with hx0 | hx0
        · rw [hx0, Nat.zero_mul]; exact Nat.zero_le _
        · rw [blen_mul_pow (by omega)]; omega
      have hQ3 : Hid (blen Q ≤ 3000000) := Nat.le_trans hQb.out (by omega)
      clear hA3 hB3 hC3 hb3 rx3 ry3 hb4 a0 a1 a2 b0 b1 b2 eQ
      obtain ⟨T0, hH4, sD, sK, sS, ⟨x0, x1, x2⟩, ⟨y0, y1, y2⟩, ⟨⟨c0, z0⟩, ⟨c1, z1⟩, ⟨c2, z2⟩, f0, f1, f2⟩, SB0, SZ0, SR0⟩ := held_open [(q, Q), (.slice B m d, Y)] hA4 hB4 ⟨_, _, _, _, _, hC4⟩ hb04 (show w.heap.size ≠ w.heap.size + 1 + 1 by omega) (show w.heap.size + 1 ≠ w.heap.size + 1 + 1 by omega) (Nat.le_refl _) (show w.heap.size ≤ w.heap.size + 1 + 1 by omega)
        (fun p hp => by
          simp only [List.mem_cons, List.not_mem_nil, or_false] at hp
          rcases hp with rfl | rfl
          · exact hq
          · exact ry4)
      have SB := hide SB0
      have SZ := hide SZ0
      have SX := hide (fun w' h => SR0 w' h (q, Q) (by simp))
      have SY := hide (fun w' h => SR0 w' h (.slice B m d, Y) (by simp))
      clear SB0 SZ0 SR0
      clear hA4 hB4 hC4 hb04 hq ry4
      by_cases hs : an = bn
      · have d5 : (an == bn) = true := beq_iff_eq.2 hs
        have gx0 := x0 _ hH4
        have gy0 := y0 _ hH4
        go_upto_region 10 with fail
        clear gx0 gy0
        have hEb : Hid (blen (Q + Y) ≤ 640000) := Nat.le_trans (blen_plus hQb.out hY4.out) (by omega)
        have HL : Hid (R = fitS an (Q + Y) be) := by unfold Hid; rw [HS.out, if_pos hnear.out, if_pos hs]
        clear HS hnear hw1 hw2 HK hkb hs
        go_region_held2 (Kept T0) (first | exact sD _ (by assumption) | assumption | exact sK _ _ (by assumption) hbA | exact sK _ _ (by assumption) hbF | exact sS _ (by assumption) _ _ _ _ _)
          (first
            | (go_at_call 127; (with_reducible refine (plusI _ _ Q Y _ (SX.out _ (by assumption)) (SY.out _ (by assumption)) hQ3.out hY3.out).mono ?_); rintro z wA ⟨⟨p, rfl, hp⟩, hbA⟩)
            | (go_at_call 118; (with_reducible refine (fitV _ _ (Q + Y) _ _ hp hEb.out (by omega) (by omega) (HT.out.below (SB.out _ (by assumption)))).mono ?_); rintro z wF ⟨hbF, hcase⟩; rcases hcase with ⟨h0, v, rfl, hv⟩ | ⟨h0, hz, rfl⟩; rotate_left; (exact ⟨rfl, SB.out _ (sK _ _ (by assumption) hbF), .inr (by rw [HL.out]; exact ⟨h0, hz, rfl⟩)⟩); obtain ⟨A', n', c', rfl, hv1, hv2, hv3⟩ := hv))
        all_goals
          have hKF := sK _ _ (sK _ _ (sD _ hH4) hbA) hbF
          obtain ⟨g9, A9, n9, c9, e9, hz9⟩ := (SZ.out _ hKF).get
          rw [← HL.out] at h0 hv1 hv2 hv3 ⊢
          have hB9 := hz9.store3 (.bool R.1.neg) (.slice A' n' c') (.int .i64 R.1.e)
          have q0 := hB9.cell 0 rfl
          have q1 := hB9.cell 1 rfl
          have q2 := hB9.cell 2 rfl
          have HF := hide (And.intro (hv1.store3 hz9 (.bool R.1.neg) (.slice A' n' c') (.int .i64 R.1.e) (dy_no _ _ _ ⟨_, _, _, rfl⟩) (dy_no _ _ _ ⟨_, _, _, rfl⟩)) (SB.out _ (sS _ hKF R.1.neg A' n' c' R.1.e)))
          clear hB9 hz9 hv1 hKF sD sK sS x0 x1 x2 y0 y1 y2 z0 z1 z2 f0 f1 f2
          go_wp2
          exact bodyPost_ret (v := .agg #[.bool R.1.neg, .slice A' n' c', .int .i64 R.1.e]) (by simp [results, Tryz.results104, go_sem, q0, q1, q2]) rfl ⟨HF.out.2, .inl ⟨h0, _, rfl, _, _, _, rfl, HF.out.1, hv2, hv3⟩⟩
      · have d5 : (an == bn) = false := beq_eq_false_iff_ne.2 hs
        have gx0 := x0 _ hH4
        have gy0 := y0 _ hH4
        have gy1 := y1 _ hH4
        go_wp2_with fail
        refine (orderI _ _ Q Y _ (SX.out _ hH4) (SY.out _ hH4)).mono ?_
        rintro z w5 ⟨rfl, hb5⟩
        have hH5 := sK _ _ hH4 hb5
        clear gx0 gy0 gy1
        by_cases hge : Y ≤ Q
        · have hc : decide (cmpN Q Y ≥ 0) = true := by unfold cmpN; rw [if_neg (by omega)]; split <;> rfl
          obtain ⟨z, hz⟩ : ∃ z, z = cmpN Q Y := ⟨_, rfl⟩
          rw [← hz] at hc ⊢
          clear hz
          go_upto_region 12 with fail
          have hEb : Hid (blen (Q - Y) ≤ 640000) := Nat.le_trans (Nat.le_trans (blen_mono (Nat.sub_le _ _)) hQb.out) (by omega)
          have HL : Hid (R = fitS an (Q - Y) be) := by unfold Hid; rw [HS.out, if_pos hnear.out, if_neg hs, if_pos hge]
          clear HS hnear hw1 hw2 HK hkb hs
          go_region_held2 (Kept T0) (first | exact sD _ (by assumption) | assumption | exact sK _ _ (by assumption) hbA | exact sK _ _ (by assumption) hbF | exact sS _ (by assumption) _ _ _ _ _)
            (first
              | (go_at_call 128; (with_reducible refine (minusI _ _ Q Y _ (SX.out _ (by assumption)) (SY.out _ (by assumption)) hQ3.out hge).mono ?_); rintro z wA ⟨⟨p, rfl, hp⟩, hbA⟩)
              | (go_at_call 118; (with_reducible refine (fitV _ _ (Q - Y) _ _ hp hEb.out (by omega) (by omega) (HT.out.below (SB.out _ (by assumption)))).mono ?_); rintro z wF ⟨hbF, hcase⟩; rcases hcase with ⟨h0, v, rfl, hv⟩ | ⟨h0, hz, rfl⟩; rotate_left; (exact ⟨rfl, SB.out _ (sK _ _ (by assumption) hbF), .inr (by rw [HL.out]; exact ⟨h0, hz, rfl⟩)⟩); obtain ⟨A', n', c', rfl, hv1, hv2, hv3⟩ := hv))
          all_goals
            have hKF := sK _ _ (sK _ _ (sD _ hH5) hbA) hbF
            obtain ⟨g9, A9, n9, c9, e9, hz9⟩ := (SZ.out _ hKF).get
            rw [← HL.out] at h0 hv1 hv2 hv3 ⊢
            have hB9 := hz9.store3 (.bool R.1.neg) (.slice A' n' c') (.int .i64 R.1.e)
            have q0 := hB9.cell 0 rfl
            have q1 := hB9.cell 1 rfl
            have q2 := hB9.cell 2 rfl
            have HF := hide (And.intro (hv1.store3 hz9 (.bool R.1.neg) (.slice A' n' c') (.int .i64 R.1.e) (dy_no _ _ _ ⟨_, _, _, rfl⟩) (dy_no _ _ _ ⟨_, _, _, rfl⟩)) (SB.out _ (sS _ hKF R.1.neg A' n' c' R.1.e)))
            clear hB9 hz9 hv1 hKF sD sK sS x0 x1 x2 y0 y1 y2 z0 z1 z2 f0 f1 f2
            go_wp2
            exact bodyPost_ret (v := .agg #[.bool R.1.neg, .slice A' n' c', .int .i64 R.1.e]) (by simp [results, Tryz.results104, go_sem, q0, q1, q2]) rfl ⟨HF.out.2, .inl ⟨h0, _, rfl, _, _, _, rfl, HF.out.1, hv2, hv3⟩⟩
        · have hge : Q < Y := by omega
          rw [cmpN_lt0 hge]
          go_upto_region 13 with fail
          have hEb : Hid (blen (Y - Q) ≤ 640000) := Nat.le_trans (Nat.le_trans (blen_mono (Nat.sub_le _ _)) hY4.out) (by omega)
          have HL : Hid (R = fitS bn (Y - Q) be) := by unfold Hid; rw [HS.out, if_pos hnear.out, if_neg hs, if_neg (by omega)]
          clear HS hnear hw1 hw2 HK hkb hs
          go_region_held2 (Kept T0) (first | exact sD _ (by assumption) | assumption | exact sK _ _ (by assumption) hbA | exact sK _ _ (by assumption) hbF | exact sS _ (by assumption) _ _ _ _ _)
            (first
              | (go_at_call 128; (with_reducible refine (minusI _ _ Y Q _ (SY.out _ (by assumption)) (SX.out _ (by assumption)) hY3.out (Nat.le_of_lt hge)).mono ?_); rintro z wA ⟨⟨p, rfl, hp⟩, hbA⟩)
              | (go_at_call 118; (with_reducible refine (fitV _ _ (Y - Q) _ _ hp hEb.out (by omega) (by omega) (HT.out.below (SB.out _ (by assumption)))).mono ?_); rintro z wF ⟨hbF, hcase⟩; rcases hcase with ⟨h0, v, rfl, hv⟩ | ⟨h0, hz, rfl⟩; rotate_left; (exact ⟨rfl, SB.out _ (sK _ _ (by assumption) hbF), .inr (by rw [HL.out]; exact ⟨h0, hz, rfl⟩)⟩); obtain ⟨A', n', c', rfl, hv1, hv2, hv3⟩ := hv))
          all_goals
            have hKF := sK _ _ (sK _ _ (sD _ hH5) hbA) hbF
            obtain ⟨g9, A9, n9, c9, e9, hz9⟩ := (SZ.out _ hKF).get
            rw [← HL.out] at h0 hv1 hv2 hv3 ⊢
            have hB9 := hz9.store3 (.bool R.1.neg) (.slice A' n' c') (.int .i64 R.1.e)
            have q0 := hB9.cell 0 rfl
            have q1 := hB9.cell 1 rfl
            have q2 := hB9.cell 2 rfl
            have HF := hide (And.intro (hv1.store3 hz9 (.bool R.1.neg) (.slice A' n' c') (.int .i64 R.1.e) (dy_no _ _ _ ⟨_, _, _, rfl⟩) (dy_no _ _ _ ⟨_, _, _, rfl⟩)) (SB.out _ (sS _ hKF R.1.neg A' n' c' R.1.e)))
            clear hB9 hz9 hv1 hKF sD sK sS x0 x1 x2 y0 y1 y2 z0 z1 z2 f0 f1 f2
            go_wp2
            exact bodyPost_ret (v := .agg #[.bool R.1.neg, .slice A' n' c', .int .i64 R.1.e]) (by simp [results, Tryz.results104, go_sem, q0, q1, q2]) rfl ⟨HF.out.2, .inl ⟨h0, _, rfl, _, _, _, rfl, HF.out.1, hv2, hv3⟩⟩
    by_cases hfar : ae - be ≤ 4097 - (blen X : Int)
    · have d1 : (ae == be) = false := beq_eq_false_iff_ne.2 heq
      have d2 : decide (ae - be ≤ 4097 - (blen X : Int)) = true := decide_eq_true hfar
      have hnear : Hid (ae = be ∨ ae - be ≤ 4097 - (blen X : Int)) := .inr hfar
      have hkb : k ≤ 4097 := by omega
      clear hk heq hfar
      have a0 := hA2.cell 0 rfl
      have a1 := hA2.cell 1 rfl
      have a2 := hA2.cell 2 rfl
      have b0 := hB2.cell 0 rfl
      have b1 := hB2.cell 1 rfl
      have b2 := hB2.cell 2 rfl
      clear hH
      clear sD sK sS x0 x1 x2 y0 y1 y2 z0 z1 z2 f0 f1 f2 SB SZ SX SY
      go_quiet ((first
          | (go_at_call 106; exact quiet1 (sizeI _ X _ (rx.drewN _) hX3.out))
          | (go_at_call 117; exact quiet1 (must_yes _ _))))
      clear a0 a1 a2 b0 b1 b2
      have hA3 := hA2.drewN nq
      have hB3 := hB2.drewN nq
      have hC3 := hC2.drewN nq
      have hb3 := below_drewN hb2 nq
      have rx3 := rx.drewN nq
      have ry3 := ry.drewN nq
      clear hA2 hB2 hC2 hb2 rx ry d1
      generalize W.drewN nq = W3 at *
      have a0 := hA3.cell 0 rfl
      have a1 := hA3.cell 1 rfl
      have a2 := hA3.cell 2 rfl
      have b0 := hB3.cell 0 rfl
      have b1 := hB3.cell 1 rfl
      have b2 := hB3.cell 2 rfl
      go_wp2_with fail
      rw [HK.out]
      refine (leftI _ X _ rx3 hX3.out k (by omega)).mono ?_
      rw [← eQ]
      rintro z w4 ⟨⟨q, rfl, hq⟩, hb4⟩
      have hA4 := hA3.keep hb4
      have hB4 := hB3.keep hb4
      have hC4 := hC3.keep hb4
      have hb04 := hb3.trans (hb4.mono (Nat.le_of_lt hA3.lt))
      have ry4 := ry3.below hb4
      have hQb : Hid (blen Q ≤ 600000) := by
        unfold Hid
        rw [eQ]
        rcases Nat.eq_zero_or_pos X with hx0 | hx0
        · rw [hx0, Nat.zero_mul]; exact Nat.zero_le _
        · rw [blen_mul_pow (by omega)]; omega
      have hQ3 : Hid (blen Q ≤ 3000000) := Nat.le_trans hQb.out (by omega)
      clear hA3 hB3 hC3 hb3 rx3 ry3 hb4 a0 a1 a2 b0 b1 b2 eQ
      obtain ⟨T0, hH4, sD, sK, sS, ⟨x0, x1, x2⟩, ⟨y0, y1, y2⟩, ⟨⟨c0, z0⟩, ⟨c1, z1⟩, ⟨c2, z2⟩, f0, f1, f2⟩, SB0, SZ0, SR0⟩ := held_open [(q, Q), (.slice B m d, Y)] hA4 hB4 ⟨_, _, _, _, _, hC4⟩ hb04 (show w.heap.size ≠ w.heap.size + 1 + 1 by omega) (show w.heap.size + 1 ≠ w.heap.size + 1 + 1 by omega) (Nat.le_refl _) (show w.heap.size ≤ w.heap.size + 1 + 1 by omega)
        (fun p hp => by
          simp only [List.mem_cons, List.not_mem_nil, or_false] at hp
          rcases hp with rfl | rfl
          · exact hq
          · exact ry4)
      have SB := hide SB0
      have SZ := hide SZ0
      have SX := hide (fun w' h => SR0 w' h (q, Q) (by simp))
      have SY := hide (fun w' h => SR0 w' h (.slice B m d, Y) (by simp))
      clear SB0 SZ0 SR0
      clear hA4 hB4 hC4 hb04 hq ry4
      by_cases hs : an = bn
      · have d5 : (an == bn) = true := beq_iff_eq.2 hs
        have gx0 := x0 _ hH4
        have gy0 := y0 _ hH4
        go_upto_region 10 with fail
        clear gx0 gy0
        have hEb : Hid (blen (Q + Y) ≤ 640000) := Nat.le_trans (blen_plus hQb.out hY4.out) (by omega)
        have HL : Hid (R = fitS an (Q + Y) be) := by unfold Hid; rw [HS.out, if_pos hnear.out, if_pos hs]
        clear HS hnear hw1 hw2 HK hkb hs
        go_region_held2 (Kept T0) (first | exact sD _ (by assumption) | assumption | exact sK _ _ (by assumption) hbA | exact sK _ _ (by assumption) hbF | exact sS _ (by assumption) _ _ _ _ _)
          (first
            | (go_at_call 127; (with_reducible refine (plusI _ _ Q Y _ (SX.out _ (by assumption)) (SY.out _ (by assumption)) hQ3.out hY3.out).mono ?_); rintro z wA ⟨⟨p, rfl, hp⟩, hbA⟩)
            | (go_at_call 118; (with_reducible refine (fitV _ _ (Q + Y) _ _ hp hEb.out (by omega) (by omega) (HT.out.below (SB.out _ (by assumption)))).mono ?_); rintro z wF ⟨hbF, hcase⟩; rcases hcase with ⟨h0, v, rfl, hv⟩ | ⟨h0, hz, rfl⟩; rotate_left; (exact ⟨rfl, SB.out _ (sK _ _ (by assumption) hbF), .inr (by rw [HL.out]; exact ⟨h0, hz, rfl⟩)⟩); obtain ⟨A', n', c', rfl, hv1, hv2, hv3⟩ := hv))
        all_goals
          have hKF := sK _ _ (sK _ _ (sD _ hH4) hbA) hbF
          obtain ⟨g9, A9, n9, c9, e9, hz9⟩ := (SZ.out _ hKF).get
          rw [← HL.out] at h0 hv1 hv2 hv3 ⊢
          have hB9 := hz9.store3 (.bool R.1.neg) (.slice A' n' c') (.int .i64 R.1.e)
          have q0 := hB9.cell 0 rfl
          have q1 := hB9.cell 1 rfl
          have q2 := hB9.cell 2 rfl
          have HF := hide (And.intro (hv1.store3 hz9 (.bool R.1.neg) (.slice A' n' c') (.int .i64 R.1.e) (dy_no _ _ _ ⟨_, _, _, rfl⟩) (dy_no _ _ _ ⟨_, _, _, rfl⟩)) (SB.out _ (sS _ hKF R.1.neg A' n' c' R.1.e)))
          clear hB9 hz9 hv1 hKF sD sK sS x0 x1 x2 y0 y1 y2 z0 z1 z2 f0 f1 f2
          go_wp2
          exact bodyPost_ret (v := .agg #[.bool R.1.neg, .slice A' n' c', .int .i64 R.1.e]) (by simp [results, Tryz.results104, go_sem, q0, q1, q2]) rfl ⟨HF.out.2, .inl ⟨h0, _, rfl, _, _, _, rfl, HF.out.1, hv2, hv3⟩⟩
      · have d5 : (an == bn) = false := beq_eq_false_iff_ne.2 hs
        have gx0 := x0 _ hH4
        have gy0 := y0 _ hH4
        have gy1 := y1 _ hH4
        go_wp2_with fail
        refine (orderI _ _ Q Y _ (SX.out _ hH4) (SY.out _ hH4)).mono ?_
        rintro z w5 ⟨rfl, hb5⟩
        have hH5 := sK _ _ hH4 hb5
        clear gx0 gy0 gy1
        by_cases hge : Y ≤ Q
        · have hc : decide (cmpN Q Y ≥ 0) = true := by unfold cmpN; rw [if_neg (by omega)]; split <;> rfl
          obtain ⟨z, hz⟩ : ∃ z, z = cmpN Q Y := ⟨_, rfl⟩
          rw [← hz] at hc ⊢
          clear hz
          go_upto_region 12 with fail
          have hEb : Hid (blen (Q - Y) ≤ 640000) := Nat.le_trans (Nat.le_trans (blen_mono (Nat.sub_le _ _)) hQb.out) (by omega)
          have HL : Hid (R = fitS an (Q - Y) be) := by unfold Hid; rw [HS.out, if_pos hnear.out, if_neg hs, if_pos hge]
          clear HS hnear hw1 hw2 HK hkb hs
          go_region_held2 (Kept T0) (first | exact sD _ (by assumption) | assumption | exact sK _ _ (by assumption) hbA | exact sK _ _ (by assumption) hbF | exact sS _ (by assumption) _ _ _ _ _)
            (first
              | (go_at_call 128; (with_reducible refine (minusI _ _ Q Y _ (SX.out _ (by assumption)) (SY.out _ (by assumption)) hQ3.out hge).mono ?_); rintro z wA ⟨⟨p, rfl, hp⟩, hbA⟩)
              | (go_at_call 118; (with_reducible refine (fitV _ _ (Q - Y) _ _ hp hEb.out (by omega) (by omega) (HT.out.below (SB.out _ (by assumption)))).mono ?_); rintro z wF ⟨hbF, hcase⟩; rcases hcase with ⟨h0, v, rfl, hv⟩ | ⟨h0, hz, rfl⟩; rotate_left; (exact ⟨rfl, SB.out _ (sK _ _ (by assumption) hbF), .inr (by rw [HL.out]; exact ⟨h0, hz, rfl⟩)⟩); obtain ⟨A', n', c', rfl, hv1, hv2, hv3⟩ := hv))
          all_goals
            have hKF := sK _ _ (sK _ _ (sD _ hH5) hbA) hbF
            obtain ⟨g9, A9, n9, c9, e9, hz9⟩ := (SZ.out _ hKF).get
            rw [← HL.out] at h0 hv1 hv2 hv3 ⊢
            have hB9 := hz9.store3 (.bool R.1.neg) (.slice A' n' c') (.int .i64 R.1.e)
            have q0 := hB9.cell 0 rfl
            have q1 := hB9.cell 1 rfl
            have q2 := hB9.cell 2 rfl
            have HF := hide (And.intro (hv1.store3 hz9 (.bool R.1.neg) (.slice A' n' c') (.int .i64 R.1.e) (dy_no _ _ _ ⟨_, _, _, rfl⟩) (dy_no _ _ _ ⟨_, _, _, rfl⟩)) (SB.out _ (sS _ hKF R.1.neg A' n' c' R.1.e)))
            clear hB9 hz9 hv1 hKF sD sK sS x0 x1 x2 y0 y1 y2 z0 z1 z2 f0 f1 f2
            go_wp2
            exact bodyPost_ret (v := .agg #[.bool R.1.neg, .slice A' n' c', .int .i64 R.1.e]) (by simp [results, Tryz.results104, go_sem, q0, q1, q2]) rfl ⟨HF.out.2, .inl ⟨h0, _, rfl, _, _, _, rfl, HF.out.1, hv2, hv3⟩⟩
        · have hge : Q < Y := by omega
          rw [cmpN_lt0 hge]
          go_upto_region 13 with fail
          have hEb : Hid (blen (Y - Q) ≤ 640000) := Nat.le_trans (Nat.le_trans (blen_mono (Nat.sub_le _ _)) hY4.out) (by omega)
          have HL : Hid (R = fitS bn (Y - Q) be) := by unfold Hid; rw [HS.out, if_pos hnear.out, if_neg hs, if_neg (by omega)]
          clear HS hnear hw1 hw2 HK hkb hs
          go_region_held2 (Kept T0) (first | exact sD _ (by assumption) | assumption | exact sK _ _ (by assumption) hbA | exact sK _ _ (by assumption) hbF | exact sS _ (by assumption) _ _ _ _ _)
            (first
              | (go_at_call 128; (with_reducible refine (minusI _ _ Y Q _ (SY.out _ (by assumption)) (SX.out _ (by assumption)) hY3.out (Nat.le_of_lt hge)).mono ?_); rintro z wA ⟨⟨p, rfl, hp⟩, hbA⟩)
              | (go_at_call 118; (with_reducible refine (fitV _ _ (Y - Q) _ _ hp hEb.out (by omega) (by omega) (HT.out.below (SB.out _ (by assumption)))).mono ?_); rintro z wF ⟨hbF, hcase⟩; rcases hcase with ⟨h0, v, rfl, hv⟩ | ⟨h0, hz, rfl⟩; rotate_left; (exact ⟨rfl, SB.out _ (sK _ _ (by assumption) hbF), .inr (by rw [HL.out]; exact ⟨h0, hz, rfl⟩)⟩); obtain ⟨A', n', c', rfl, hv1, hv2, hv3⟩ := hv))
          all_goals
            have hKF := sK _ _ (sK _ _ (sD _ hH5) hbA) hbF
            obtain ⟨g9, A9, n9, c9, e9, hz9⟩ := (SZ.out _ hKF).get
            rw [← HL.out] at h0 hv1 hv2 hv3 ⊢
            have hB9 := hz9.store3 (.bool R.1.neg) (.slice A' n' c') (.int .i64 R.1.e)
            have q0 := hB9.cell 0 rfl
            have q1 := hB9.cell 1 rfl
            have q2 := hB9.cell 2 rfl
            have HF := hide (And.intro (hv1.store3 hz9 (.bool R.1.neg) (.slice A' n' c') (.int .i64 R.1.e) (dy_no _ _ _ ⟨_, _, _, rfl⟩) (dy_no _ _ _ ⟨_, _, _, rfl⟩)) (SB.out _ (sS _ hKF R.1.neg A' n' c' R.1.e)))
            clear hB9 hz9 hv1 hKF sD sK sS x0 x1 x2 y0 y1 y2 z0 z1 z2 f0 f1 f2
            go_wp2
            exact bodyPost_ret (v := .agg #[.bool R.1.neg, .slice A' n' c', .int .i64 R.1.e]) (by simp [results, Tryz.results104, go_sem, q0, q1, q2]) rfl ⟨HF.out.2, .inl ⟨h0, _, rfl, _, _, _, rfl, HF.out.1, hv2, hv3⟩⟩
    · have HL : Hid (R = (Dy.zero, 2)) := by
        unfold Hid; rw [HS.out, if_neg (by rintro (h | h) <;> omega)]
      have d1 : (ae == be) = false := beq_eq_false_iff_ne.2 heq
      have d2 : decide (ae - be ≤ 4097 - (blen X : Int)) = false := decide_eq_false hfar
      clear hk HS HK heq hfar
      go_region_held2 (Kept S0) (first | exact sD _ (by assumption) | assumption | exact sK _ _ (by assumption) hbA | exact sK _ _ (by assumption) hbF | exact sS _ (by assumption) _ _ _ _ _)
        (first
          | (go_at_call 106; (with_reducible refine (sizeI _ X _ (SX.out _ (by assumption)) hX3.out).mono ?_); rintro z w' ⟨rfl, rfl⟩)
          | (go_at_call 117; (with_reducible refine (must_two _ _ _).mono ?_); rintro z wM (⟨hM, rfl, rfl⟩ | ⟨hM, rfl, rfl⟩); rotate_left; (exact ⟨rfl, SB.out _ (by assumption), .inr (by rw [HL.out]; exact ⟨by decide, rfl, rfl⟩)⟩)))
      all_goals exact absurd hM (by decide)
end Go.Proofs.YtbpfnooloemieaaGreatDoor
namespace Go.Proofs.YtbpfnooloemieaaGreatDoor
open Go.RowKit Pl
attribute [local go_sem ↓] Go.wp_at_zero Go.wp_at_succ

/-- A face's answer, stored into a variable of the call's own. -/
theorem face_store {w0 w1 : World} {B g : Nat} {t : TypeId} {A : Option Addr} {n c : Nat} {d : Dy} (hC : SomeDy w1 g t) (hr : RdN .u64 w1 A n c d.m) (hb : Below B w0 w1) (hB : B ≤ g) :
    (((w1.setCell ⟨g, 0, none⟩ (.bool d.neg)).setCell ⟨g, 1, none⟩ (.slice A n c)).setCell ⟨g, 2, none⟩ (.int .i64 d.e)).cell? ⟨g, 0, none⟩ = some (.bool d.neg) ∧
    (((w1.setCell ⟨g, 0, none⟩ (.bool d.neg)).setCell ⟨g, 1, none⟩ (.slice A n c)).setCell ⟨g, 2, none⟩ (.int .i64 d.e)).cell? ⟨g, 1, none⟩ = some (.slice A n c) ∧
    (((w1.setCell ⟨g, 0, none⟩ (.bool d.neg)).setCell ⟨g, 1, none⟩ (.slice A n c)).setCell ⟨g, 2, none⟩ (.int .i64 d.e)).cell? ⟨g, 2, none⟩ = some (.int .i64 d.e) ∧
    Hid (RdN .u64 (((w1.setCell ⟨g, 0, none⟩ (.bool d.neg)).setCell ⟨g, 1, none⟩ (.slice A n c)).setCell ⟨g, 2, none⟩ (.int .i64 d.e)) A n c d.m ∧
      Below B w0 (((w1.setCell ⟨g, 0, none⟩ (.bool d.neg)).setCell ⟨g, 1, none⟩ (.slice A n c)).setCell ⟨g, 2, none⟩ (.int .i64 d.e))) := by
  obtain ⟨g9, A9, n9, c9, e9, hz⟩ := hC
  have h := hz.store3 (.bool d.neg) (.slice A n c) (.int .i64 d.e)
  exact ⟨h.cell 0 rfl, h.cell 1 rfl, h.cell 2 rfl, hr.store3 hz _ _ _ (dy_no _ _ _ ⟨_, _, _, rfl⟩) (dy_no _ _ _ ⟨_, _, _, rfl⟩), below_store3 hb hB _ _ _⟩
theorem SomeDy.keep {w w' : World} {b : Nat} {t : TypeId} (h : SomeDy w b t) (hb : Below w.heap.size w w') : SomeDy w' b t := by
  obtain ⟨g, A, n, c, e, hz⟩ := h; exact ⟨g, A, n, c, e, hz.keep hb⟩
theorem make_func : ∀ (fn : Fn) (first cap : Array Value) (w : World), (Instr.makeFunc fn first cap).run Tryz.prog w = .ok (.func fn first cap) w := fun _ _ _ _ => rfl


end Go.Proofs.YtbpfnooloemieaaGreatDoor
