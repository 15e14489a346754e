/- Contracts of package dyad, part M: two, Add, Sub, Mul. Printed by wip/mk_DyM.py. Contracts of package dyad, part N: Of; what sums, products, shifts return, as numbers behind letters. Dyads as whole numbers, scaled by one power of two: sums, products, order. No program in sight. The order of Dyads is that of their numbers; shifts. No program in sight. -/
import Derived.Test.YtbpfnooloemieaaGreatDoorDyJx
import Derived.Deep.RegionHeld2
namespace Go.Proofs.YtbpfnooloemieaaGreatDoor
open Go.RowKit Pl
attribute [local go_sem ↓] Go.wp_at_zero Go.wp_at_succ

/-- Something of two that may be. -/
def twoS (a b : Dy) (r : Dy × Int) : Dy × Int := if (mayD a && mayD b) = true then r else (Dy.zero, 1)

set_option maxRecDepth 100000 in
set_option maxHeartbeats 4000000 in
theorem two1_any (g : FuncId) (b1 b2 b3 : Nat) (a b : Dy) (A : Option Addr) (n c : Nat) (B : Option Addr) (m d : Nat) (r : Dy × Int) (W : World)
    (hA : Box W b1 [.bool a.neg, .slice A n c, .int .i64 a.e] 30) (hB : Box W b2 [.bool b.neg, .slice B m d, .int .i64 b.e] 30) (hF : W.cell? ⟨b3, 0, none⟩ = some (.func (.func g) #[] #[]))
    (da : RdD W (.agg #[.bool a.neg, .slice A n c, .int .i64 a.e]) a) (db : RdD W (.agg #[.bool b.neg, .slice B m d, .int .i64 b.e]) b)
    (hen : ∀ args W, (callFunc g args).run Tryz.prog W = .ok (.enter g args) W)
    (hdo : mayD a = true → mayD b = true → ∀ W', Below W.heap.size W W' → Calls Tryz.prog g #[.agg #[.bool a.neg, .slice A n c, .int .i64 a.e], .agg #[.bool b.neg, .slice B m d, .int .i64 b.e]] W' (FitPost W' r)) :
    Calls Tryz.prog 125 #[.pointer (some ⟨b1, 0, none⟩), .pointer (some ⟨b2, 0, none⟩), .pointer (some ⟨b3, 0, none⟩)] W (FitPost W (twoS a b r)) := by
  obtain ⟨hC, hb0⟩ := box_1 W [.bool false, .slice none 0 0, .int .i64 0] 30
  have hA0 := hA.keep hb0
  have hB0 := hB.keep hb0
  have hF0 := (hb0.cell (p := ⟨b3, 0, none⟩) (lt_of_cell hF)).trans hF
  have hFl := Nat.lt_of_lt_of_le (lt_of_cell hF) hb0.size
  have da0 := da.below hb0
  have db0 := db.below hb0
  obtain ⟨an, am, ae⟩ := a
  obtain ⟨bn, bm, be⟩ := b
  simp only at hA0 hB0 da0 db0 hdo ⊢
  have HD := hide hdo
  clear hA hB hF da db hdo
  cases ma : mayD ⟨an, am, ae⟩
  · have HN : Hid (twoS ⟨an, am, ae⟩ ⟨bn, bm, be⟩ r = (Dy.zero, 1)) := by unfold Hid twoS; rw [ma]; rfl
    have a0 := hA0.cell 0 rfl
    have a1 := hA0.cell 1 rfl
    have a2 := hA0.cell 2 rfl
    go_enter Tryz.func125, Tryz.ntmps125
    go_upto_region 1 with fail
    generalize W.alloc (.cells #[.bool false, .slice none 0 0, .int .i64 0] 30) = W1 at *
    go_wp2_with fail
    refine (mayD_any _ _ _ da0).mono ?_
    rw [ma]
    rintro z w2 ⟨rfl, hb2⟩
    clear a0 a1 a2
    go_wp2_with fail
    refine (must_no _ _).mono ?_
    rintro z w' ⟨rfl, rfl⟩
    exact ⟨rfl, below_then hb0 hb2, .inr (by rw [HN.out]; exact ⟨by decide, rfl, rfl⟩)⟩
  cases mb : mayD ⟨bn, bm, be⟩
  · have HN : Hid (twoS ⟨an, am, ae⟩ ⟨bn, bm, be⟩ r = (Dy.zero, 1)) := by unfold Hid twoS; rw [ma, mb]; rfl
    have a0 := hA0.cell 0 rfl
    have a1 := hA0.cell 1 rfl
    have a2 := hA0.cell 2 rfl
    go_enter Tryz.func125, Tryz.ntmps125
    go_upto_region 1 with fail
    generalize W.alloc (.cells #[.bool false, .slice none 0 0, .int .i64 0] 30) = W1 at *
    go_wp2_with fail
    refine (mayD_any _ _ _ da0).mono ?_
    rw [ma]
    rintro z w2 ⟨rfl, hb2⟩
    have hB2 := hB0.keep hb2
    have db2 := db0.below hb2
    clear a0 a1 a2
    have a0 := hB2.cell 0 rfl
    have a1 := hB2.cell 1 rfl
    have a2 := hB2.cell 2 rfl
    go_wp2_with fail
    refine (mayD_any _ _ _ db2).mono ?_
    rw [mb]
    rintro z w3 ⟨rfl, hb3⟩
    clear a0 a1 a2
    go_wp2_with fail
    refine (must_no _ _).mono ?_
    rintro z w' ⟨rfl, rfl⟩
    exact ⟨rfl, below_then (below_then hb0 hb2) hb3, .inr (by rw [HN.out]; exact ⟨by decide, rfl, rfl⟩)⟩
  have HN : Hid (twoS ⟨an, am, ae⟩ ⟨bn, bm, be⟩ r = r) := by unfold Hid twoS; rw [ma, mb]; rfl
  have a0 := hA0.cell 0 rfl
  have a1 := hA0.cell 1 rfl
  have a2 := hA0.cell 2 rfl
  go_enter Tryz.func125, Tryz.ntmps125
  go_upto_region 1 with fail
  generalize W.alloc (.cells #[.bool false, .slice none 0 0, .int .i64 0] 30) = W1 at *
  go_wp2_with fail
  refine (mayD_any _ _ _ da0).mono ?_
  rw [ma]
  rintro z w2 ⟨rfl, hb2⟩
  have hA2 := hA0.keep hb2
  have hB2 := hB0.keep hb2
  have hF2 := (hb2.cell (p := ⟨b3, 0, none⟩) hFl).trans hF0
  have hC2 := hC.keep hb2
  have db2 := db0.below hb2
  have hb02 := below_then hb0 hb2
  have hFl2 := Nat.lt_of_lt_of_le hFl hb2.size
  clear a0 a1 a2 hA0 hB0 hF0 hC hb0 hb2 da0 db0 hFl
  have a0 := hB2.cell 0 rfl
  have a1 := hB2.cell 1 rfl
  have a2 := hB2.cell 2 rfl
  go_wp2_with fail
  refine (mayD_any _ _ _ db2).mono ?_
  rw [mb]
  rintro z w3 ⟨rfl, hb3⟩
  have hA3 := hA2.keep hb3
  have hB3 := hB2.keep hb3
  have hF3 := (hb3.cell (p := ⟨b3, 0, none⟩) hFl2).trans hF2
  have hC3 := hC2.keep hb3
  have hb03 := below_then hb02 hb3
  clear a0 a1 a2 hA2 hB2 hF2 hC2 hb02 hb3 db2 hFl2
  have a0 := hA3.cell 0 rfl
  have a1 := hA3.cell 1 rfl
  have a2 := hA3.cell 2 rfl
  have b0 := hB3.cell 0 rfl
  have b1 := hB3.cell 1 rfl
  have b2 := hB3.cell 2 rfl
  have HEN := hen
  go_wp2_with (go_at_call 117; (with_reducible refine (must_yes _ _).mono ?_); rintro e w' ⟨rfl, rfl⟩)
  refine (HD.out ma mb _ hb03).mono ?_
  rintro z w4 ⟨hb4, ⟨h0, v, rfl, hv⟩ | ⟨h0, hz, rfl⟩⟩
  · obtain ⟨A', n', c', rfl, hv1, hv2, hv3⟩ := hv
    have hC4 := hC3.keep hb4
    have f0 := hC4.frozen 0
    have f1 := hC4.frozen 1
    have f2 := hC4.frozen 2
    have d0 := hC4.cell 0 rfl
    have d1 := hC4.cell 1 rfl
    have d2 := hC4.cell 2 rfl
    obtain ⟨q0, q1, q2, HF⟩ := face_store ⟨_, _, _, _, _, hC4⟩ hv1 (below_then hb03 hb4) (Nat.le_refl _)
    clear hC3 hC4 hb03 hb4 hv1 hA3 hB3 hF3 a0 a1 a2 b0 b1 b2 HD HEN hen
    go_wp2
    exact bodyPost_ret (v := .agg #[.bool r.1.neg, .slice A' n' c', .int .i64 r.1.e]) (by simp [results, Tryz.results125, go_sem, q0, q1, q2]) rfl ⟨HF.out.2, .inl (by rw [HN.out]; exact ⟨h0, _, rfl, _, _, _, rfl, HF.out.1, hv2, hv3⟩)⟩
  · exact ⟨rfl, below_then hb03 hb4, .inr (by rw [HN.out]; exact ⟨h0, hz, rfl⟩)⟩

set_option maxRecDepth 100000 in
set_option maxHeartbeats 4000000 in
theorem two_any (g : FuncId) (a b : Dy) (A : Option Addr) (n c : Nat) (B : Option Addr) (m d : Nat) (r : Dy × Int) (w : World)
    (da : RdD w (.agg #[.bool a.neg, .slice A n c, .int .i64 a.e]) a) (db : RdD w (.agg #[.bool b.neg, .slice B m d, .int .i64 b.e]) b)
    (hen : ∀ args W, (callFunc g args).run Tryz.prog W = .ok (.enter g args) W)
    (hdo : mayD a = true → mayD b = true → ∀ W', Below w.heap.size w W' → Calls Tryz.prog g #[.agg #[.bool a.neg, .slice A n c, .int .i64 a.e], .agg #[.bool b.neg, .slice B m d, .int .i64 b.e]] W' (FitPost W' r)) :
    Calls Tryz.prog 102 #[.agg #[.bool a.neg, .slice A n c, .int .i64 a.e], .agg #[.bool b.neg, .slice B m d, .int .i64 b.e], .func (.func g) #[] #[]] w (FacePost w (twoS a b r)) := by
  have hmf := make_func
  obtain ⟨h1, h2, h3, hb0⟩ := box_3 w [.bool a.neg, .slice A n c, .int .i64 a.e] [.bool b.neg, .slice B m d, .int .i64 b.e] [.func (.func g) #[] #[]] 30 30 72
  obtain ⟨hC, hb1⟩ := box_1 (((w.alloc (.cells #[.bool a.neg, .slice A n c, .int .i64 a.e] 30)).alloc (.cells #[.bool b.neg, .slice B m d, .int .i64 b.e] 30)).alloc (.cells #[.func (.func g) #[] #[]] 72)) [.bool false, .slice none 0 0, .int .i64 0] 30
  have esz : (((w.alloc (.cells #[.bool a.neg, .slice A n c, .int .i64 a.e] 30)).alloc (.cells #[.bool b.neg, .slice B m d, .int .i64 b.e] 30)).alloc (.cells #[.func (.func g) #[] #[]] 72)).heap.size = w.heap.size + 1 + 1 + 1 := by simp
  have h1' := h1.keep hb1
  have h2' := h2.keep hb1
  have h3' := h3.keep hb1
  have hb := below_then hb0 hb1
  rw [esz] at hC
  have da0 := da.below hb
  have db0 := db.below hb
  have HD := hide (fun ha hb' W' (hW : Below _ _ W') => hdo ha hb' W' (below_then hb hW))
  have HEN := hide hen
  clear h1 h2 h3 hb0 hb1 esz hdo da db hen
  go_enter Tryz.func102, Tryz.ntmps102
  go_upto_region 1 with fail
  generalize (((w.alloc (.cells #[.bool a.neg, .slice A n c, .int .i64 a.e] 30)).alloc (.cells #[.bool b.neg, .slice B m d, .int .i64 b.e] 30)).alloc (.cells #[.func (.func g) #[] #[]] 72)).alloc (.cells #[.bool false, .slice none 0 0, .int .i64 0] 30) = W at *
  go_wp2_with fail
  refine (face_any 125 _ (twoS a b r) _ (enters Tryz.func125 (by kernel_rfl) rfl) (fun W' hW => two1_any g _ _ _ a b A n c B m d r W' (h1'.keep hW) (h2'.keep hW) ((h3'.keep hW).cell 0 rfl) (da0.below hW) (db0.below hW) HEN.out (fun ha hb' W'' hW' => HD.out ha hb' W'' (below_then hW hW')))).mono ?_
  rintro z w2 ⟨hb2, v, rfl, hv⟩
  obtain ⟨A', n', c', rfl, hv1, hv2, hv3⟩ := hv
  have hC2 := hC.keep hb2
  have f0 := hC2.frozen 0
  have f1 := hC2.frozen 1
  have f2 := hC2.frozen 2
  have d0 := hC2.cell 0 rfl
  have d1 := hC2.cell 1 rfl
  have d2 := hC2.cell 2 rfl
  obtain ⟨R, hR⟩ : ∃ R, R = twoS a b r := ⟨_, rfl⟩
  rw [← hR] at hv1 hv2 hv3 ⊢
  have HRR := hide hR
  clear hR
  obtain ⟨q0, q1, q2, HF⟩ := face_store ⟨_, _, _, _, _, hC2⟩ hv1 (below_then hb hb2) (show w.heap.size ≤ w.heap.size + 1 + 1 + 1 by omega)
  clear hC hC2 hb hb2 hv1 h1' h2' h3' da0 db0 HD HEN
  go_wp2
  exact bodyPost_ret (v := .tuple #[.agg #[.bool R.1.neg, .slice A' n' c', .int .i64 R.1.e], .int .i64 R.2]) (by simp [results, Tryz.results102, go_sem, q0, q1, q2]) rfl (by rw [← HRR.out]; exact ⟨HF.out.2, _, rfl, _, _, _, rfl, HF.out.1, hv2, hv3⟩)


/-- The difference of two that may be. -/
def subS (a b : Dy) : Dy × Int := sumS a (negS b)
theorem negS_may {d : Dy} (h : mayD d = true) : mayD (negS d) = true := by
  unfold negS
  split
  · rename_i h2
    have h0 : ¬ d.m.length = 0 := h2.2
    unfold mayD at h ⊢
    rw [if_neg h0] at h ⊢
    exact h
  · exact h
set_option maxRecDepth 100000 in
set_option maxHeartbeats 4000000 in
theorem addD_any (u v : Value) (a b : Dy) (w : World) (h : RdD w u a) (k : RdD w v b) (hT : TabAt w) :
    Calls Tryz.prog 96 #[u, v] w (FacePost w (twoS a b (sumS a b))) := by
  have hd := h
  have kd := k
  obtain ⟨A, n, c, rfl, hr, hl, he1, he2⟩ := h
  obtain ⟨B, m, d, rfl, kr, kl, ke1, ke2⟩ := k
  obtain ⟨hA, hB, hC, hb0⟩ := box_3 w [.bool a.neg, .slice A n c, .int .i64 a.e] [.bool b.neg, .slice B m d, .int .i64 b.e] [.bool false, .slice none 0 0, .int .i64 0] 30 30 30
  have hd0 := hd.below hb0
  have kd0 := kd.below hb0
  have HT := hide (hT.below hb0)
  have a0 := hA.cell 0 rfl
  have a1 := hA.cell 1 rfl
  have a2 := hA.cell 2 rfl
  have b0 := hB.cell 0 rfl
  have b1 := hB.cell 1 rfl
  have b2 := hB.cell 2 rfl
  clear hd kd hr kr hT
  go_enter Tryz.func96, Tryz.ntmps96
  go_upto_region 1 with fail
  generalize ((w.alloc (.cells #[.bool a.neg, .slice A n c, .int .i64 a.e] 30)).alloc (.cells #[.bool b.neg, .slice B m d, .int .i64 b.e] 30)).alloc (.cells #[.bool false, .slice none 0 0, .int .i64 0] 30) = W at *
  go_wp2_with fail
  refine (two_any 104 a b A n c B m d (sumS a b) _ hd0 kd0 (enters Tryz.func104 (by kernel_rfl) rfl) (fun ha hb W' hW => sum_any _ _ a b W' (hd0.below hW) (kd0.below hW) ha hb (HT.out.below hW))).mono ?_
  rintro z w2 ⟨hb2, v, rfl, hv⟩
  obtain ⟨A', n', c', rfl, hv1, hv2, hv3⟩ := hv
  have hC2 := hC.keep hb2
  have f0 := hC2.frozen 0
  have f1 := hC2.frozen 1
  have f2 := hC2.frozen 2
  have d0 := hC2.cell 0 rfl
  have d1 := hC2.cell 1 rfl
  have d2 := hC2.cell 2 rfl
  obtain ⟨R, hR⟩ : ∃ R, R = twoS a b (sumS a b) := ⟨_, rfl⟩
  rw [← hR] at hv1 hv2 hv3 ⊢
  have HRR := hide hR
  clear hR
  obtain ⟨q0, q1, q2, HF⟩ := face_store ⟨_, _, _, _, _, hC2⟩ hv1 (below_then hb0 hb2) (show w.heap.size ≤ w.heap.size + 1 + 1 by omega)
  clear hC hC2 hb0 hb2 hv1 hA hB hd0 kd0 HT a0 a1 a2 b0 b1 b2
  go_wp2
  exact bodyPost_ret (v := .tuple #[.agg #[.bool R.1.neg, .slice A' n' c', .int .i64 R.1.e], .int .i64 R.2]) (by simp [results, Tryz.results96, go_sem, q0, q1, q2]) rfl (by rw [← HRR.out]; exact ⟨HF.out.2, _, rfl, _, _, _, rfl, HF.out.1, hv2, hv3⟩)


set_option maxRecDepth 100000 in
set_option maxHeartbeats 4000000 in
theorem sub1_any (u v : Value) (a b : Dy) (w : World) (h : RdD w u a) (k : RdD w v b) (ha : mayD a = true) (hb : mayD b = true) (hT : TabAt w) :
    Calls Tryz.prog 103 #[u, v] w (FitPost w (subS a b)) := by
  have hd := h
  have kd := k
  obtain ⟨A, n, c, rfl, hr, hl, he1, he2⟩ := h
  obtain ⟨B, m, d, rfl, kr, kl, ke1, ke2⟩ := k
  have hbl : b.m.length ≤ 1000000 := by have := (mayD_limbs hb).2.1; omega
  obtain ⟨R, hR⟩ : ∃ R, R = subS a b := ⟨_, rfl⟩
  have HL : Hid (R = sumS a (negS b)) := hR
  rw [← hR]
  clear hR
  obtain ⟨hA, hB, hC, hb0⟩ := box_3 w [.bool a.neg, .slice A n c, .int .i64 a.e] [.bool b.neg, .slice B m d, .int .i64 b.e] [.bool false, .slice none 0 0, .int .i64 0] 30 30 30
  obtain ⟨S0, hH, sD, sK, sS, ⟨x0, x1, x2⟩, ⟨y0, y1, y2⟩, ⟨⟨c0, z0⟩, ⟨c1, z1⟩, ⟨c2, z2⟩, f0, f1, f2⟩, SB0, SZ0, SR0⟩ := held_open [] hA hB ⟨_, _, _, _, _, hC⟩ hb0 (show w.heap.size ≠ w.heap.size + 1 + 1 by omega) (show w.heap.size + 1 ≠ w.heap.size + 1 + 1 by omega) (Nat.le_refl _) (show w.heap.size ≤ w.heap.size + 1 + 1 by omega) (fun p hp => by cases hp)
  have SB := hide SB0
  have SZ := hide SZ0
  have DA := hide (fun w' (h : Kept S0 w') => hd.below (SB0 w' h))
  have DB := hide (fun w' (h : Kept S0 w') => kd.below (SB0 w' h))
  have HT := hide (fun w' (h : Kept S0 w') => hT.below (SB0 w' h))
  clear SB0 SZ0 SR0 hd kd hr kr hT hA hB hC hb0
  go_enter Tryz.func103, Tryz.ntmps103
  go_upto_region 1 with fail
  generalize ((w.alloc (.cells #[.bool a.neg, .slice A n c, .int .i64 a.e] 30)).alloc (.cells #[.bool b.neg, .slice B m d, .int .i64 b.e] 30)).alloc (.cells #[.bool false, .slice none 0 0, .int .i64 0] 30) = W at *
  go_region_held2 (Kept S0) (first | exact sD _ (by assumption) | assumption | exact sK _ _ (by assumption) hbA | exact sK _ _ (by assumption) hbF | exact sS _ (by assumption) _ _ _ _ _)
    (first
      | (go_at_call 105; (with_reducible refine (negD_any _ b _ (DB.out _ (by assumption)) hbl).mono ?_); rintro z wA ⟨⟨p, rfl, hp⟩, hbA⟩)
      | (go_at_call 104; (with_reducible refine (sum_any _ _ a (negS b) _ (DA.out _ (by assumption)) hp ha (negS_may hb) (HT.out _ (by assumption))).mono ?_); rintro z wF ⟨hbF, hcase⟩; rcases hcase with ⟨h0, v, rfl, hv⟩ | ⟨h0, hz, rfl⟩; rotate_left; (exact ⟨rfl, SB.out _ (sK _ _ (by assumption) hbF), .inr (by rw [HL.out]; exact ⟨h0, hz, rfl⟩)⟩); obtain ⟨A', n', c', rfl, hv1, hv2, hv3⟩ := hv))
  all_goals
    have hKF := sK _ _ (sK _ _ (sD _ hH) hbA) hbF
    rw [← HL.out] at h0 hv1 hv2 hv3 ⊢
    obtain ⟨q0, q1, q2, HF⟩ := face_store (SZ.out _ hKF) hv1 (SB.out _ hKF) (show w.heap.size ≤ w.heap.size + 1 + 1 by omega)
    clear hv1 hKF sD sK sS x0 x1 x2 y0 y1 y2 z0 z1 z2 f0 f1 f2
    go_wp2
    exact bodyPost_ret (v := .agg #[.bool R.1.neg, .slice A' n' c', .int .i64 R.1.e]) (by simp [results, Tryz.results103, go_sem, q0, q1, q2]) rfl ⟨HF.out.2, .inl ⟨h0, _, rfl, _, _, _, rfl, HF.out.1, hv2, hv3⟩⟩


set_option maxRecDepth 100000 in
set_option maxHeartbeats 4000000 in
theorem subD_any (u v : Value) (a b : Dy) (w : World) (h : RdD w u a) (k : RdD w v b) (hT : TabAt w) :
    Calls Tryz.prog 83 #[u, v] w (FacePost w (twoS a b (subS a b))) := by
  have hd := h
  have kd := k
  obtain ⟨A, n, c, rfl, hr, hl, he1, he2⟩ := h
  obtain ⟨B, m, d, rfl, kr, kl, ke1, ke2⟩ := k
  obtain ⟨hA, hB, hC, hb0⟩ := box_3 w [.bool a.neg, .slice A n c, .int .i64 a.e] [.bool b.neg, .slice B m d, .int .i64 b.e] [.bool false, .slice none 0 0, .int .i64 0] 30 30 30
  have hd0 := hd.below hb0
  have kd0 := kd.below hb0
  have HT := hide (hT.below hb0)
  have a0 := hA.cell 0 rfl
  have a1 := hA.cell 1 rfl
  have a2 := hA.cell 2 rfl
  have b0 := hB.cell 0 rfl
  have b1 := hB.cell 1 rfl
  have b2 := hB.cell 2 rfl
  clear hd kd hr kr hT
  go_enter Tryz.func83, Tryz.ntmps83
  go_upto_region 1 with fail
  generalize ((w.alloc (.cells #[.bool a.neg, .slice A n c, .int .i64 a.e] 30)).alloc (.cells #[.bool b.neg, .slice B m d, .int .i64 b.e] 30)).alloc (.cells #[.bool false, .slice none 0 0, .int .i64 0] 30) = W at *
  go_wp2_with fail
  refine (two_any 103 a b A n c B m d (subS a b) _ hd0 kd0 (enters Tryz.func103 (by kernel_rfl) rfl) (fun ha hb W' hW => sub1_any _ _ a b W' (hd0.below hW) (kd0.below hW) ha hb (HT.out.below hW))).mono ?_
  rintro z w2 ⟨hb2, v, rfl, hv⟩
  obtain ⟨A', n', c', rfl, hv1, hv2, hv3⟩ := hv
  have hC2 := hC.keep hb2
  have f0 := hC2.frozen 0
  have f1 := hC2.frozen 1
  have f2 := hC2.frozen 2
  have d0 := hC2.cell 0 rfl
  have d1 := hC2.cell 1 rfl
  have d2 := hC2.cell 2 rfl
  obtain ⟨R, hR⟩ : ∃ R, R = twoS a b (subS a b) := ⟨_, rfl⟩
  rw [← hR] at hv1 hv2 hv3 ⊢
  have HRR := hide hR
  clear hR
  obtain ⟨q0, q1, q2, HF⟩ := face_store ⟨_, _, _, _, _, hC2⟩ hv1 (below_then hb0 hb2) (show w.heap.size ≤ w.heap.size + 1 + 1 by omega)
  clear hC hC2 hb0 hb2 hv1 hA hB hd0 kd0 HT a0 a1 a2 b0 b1 b2
  go_wp2
  exact bodyPost_ret (v := .tuple #[.agg #[.bool R.1.neg, .slice A' n' c', .int .i64 R.1.e], .int .i64 R.2]) (by simp [results, Tryz.results83, go_sem, q0, q1, q2]) rfl (by rw [← HRR.out]; exact ⟨HF.out.2, _, rfl, _, _, _, rfl, HF.out.1, hv2, hv3⟩)

end Go.Proofs.YtbpfnooloemieaaGreatDoor
namespace Go.Proofs.YtbpfnooloemieaaGreatDoor
open Go.RowKit Pl

/-- A Dyad and its mark, as a face returns them. -/
def DyTup (w : World) (e : Ending) (r : Dy × Int) : Prop := ∃ (d : Dy) (x : Int) (A : Option Addr) (n c : Nat), Hid ((d, x) = r) ∧ e = .returned (.tuple #[.agg #[.bool d.neg, .slice A n c, .int .i64 d.e], .int .i64 x]) ∧ RdD w (.agg #[.bool d.neg, .slice A n c, .int .i64 d.e]) d
theorem FacePost.tup {w w' : World} {r : Dy × Int} {e : Ending} (h : FacePost w r e w') : DyTup w' e r ∧ Below w.heap.size w w' := by
  obtain ⟨hb, v, he, hv⟩ := h
  obtain ⟨A, n, c, hv0, hv1⟩ := hv
  exact ⟨⟨r.1, r.2, A, n, c, rfl, by rw [he, hv0], A, n, c, rfl, hv1⟩, hb⟩
/-- A Dyad, as a function returns it. -/
def DyRet (w : World) (e : Ending) (d : Dy) : Prop := ∃ (A : Option Addr) (n c : Nat), e = .returned (.agg #[.bool d.neg, .slice A n c, .int .i64 d.e]) ∧ RdD w (.agg #[.bool d.neg, .slice A n c, .int .i64 d.e]) d
theorem DyRet.of {w : World} {e : Ending} {d : Dy} (h : ∃ z, e = .returned z ∧ RdD w z d) : DyRet w e d := by
  obtain ⟨z, he, A, n, c, rfl, hr⟩ := h
  exact ⟨A, n, c, he, A, n, c, rfl, hr⟩
section
variable (u v : Value) (a b : Dy) (w : World) (h : RdD w u a) (k : RdD w v b) (hT : TabAt w)
include h k hT in
theorem addT : Calls Tryz.prog 96 #[u, v] w fun e w' => DyTup w' e (twoS a b (sumS a b)) ∧ Below w.heap.size w w' := (addD_any u v a b w h k hT).mono fun _ _ h => h.tup
include h k hT in
theorem subT : Calls Tryz.prog 83 #[u, v] w fun e w' => DyTup w' e (twoS a b (subS a b)) ∧ Below w.heap.size w w' := (subD_any u v a b w h k hT).mono fun _ _ h => h.tup
include h hT in
theorem shiftT (j : Int) : Calls Tryz.prog 97 #[u, .int .i64 j] w fun e w' => DyTup w' e (shiftS a j) ∧ Below w.heap.size w w' := (shift_any u a j w h hT).mono fun _ _ h => h.tup
end

end Go.Proofs.YtbpfnooloemieaaGreatDoor
namespace Go.Proofs.YtbpfnooloemieaaGreatDoor
open Go.RowKit Pl

/-- The sign as a number. -/
def sgI (n : Bool) : Int := if n then -1 else 1
/-- The scale: 2^8388608, behind a plain name. -/
def SS : Nat := 8388608
theorem SS_eq : (SS : Int) = 8388608 := rfl
/-- The number of a Dyad, times 2^SS. -/
def ZD (d : Dy) : Int := sgI d.neg * ((val BB d.m * 2 ^ (d.e + (SS : Int)).toNat : Nat) : Int)
/-- The Dyad of a number that is so scaled. -/
def fitZ (n : Int) : Dy × Int := fitS (decide (n < 0)) n.natAbs (-(SS : Int))

theorem fitS_zero (neg : Bool) (e : Int) : fitS neg 0 e = (Dy.zero, 0) := by unfold fitS; rw [if_pos rfl]
theorem fitS_eq {neg : Bool} {n : Nat} {e : Int} (h0 : n ≠ 0) : fitS neg n e =
    if ¬ (limbs BB (n / 2 ^ tz n)).length ≤ 64 then (Dy.zero, 2)
    else if -1048576 ≤ e + (tz n : Int) ∧ e + (tz n : Int) ≤ 1048576 then (⟨neg, limbs BB (n / 2 ^ tz n), e + (tz n : Int)⟩, 0) else (Dy.zero, 3) := by
  unfold fitS
  rw [if_neg h0]
  split
  · rfl
  · by_cases h1 : -1048576 ≤ e + (tz n : Int) ∧ e + (tz n : Int) ≤ 1048576
    · rw [if_pos h1, if_neg (by omega), if_neg (by omega)]
    · rw [if_neg h1]
      split
      · rfl
      · rw [if_pos (by omega)]
theorem fitS_shift (neg : Bool) (n k : Nat) (e : Int) : fitS neg (n * 2 ^ k) (e - (k : Int)) = fitS neg n e := by
  rcases Nat.eq_zero_or_pos n with rfl | h0
  · rw [Nat.zero_mul, fitS_zero, fitS_zero]
  · have h1 : n * 2 ^ k ≠ 0 := by have := Nat.mul_pos h0 (Nat.two_pow_pos k); omega
    rw [fitS_eq h1, fitS_eq (by omega), tz_mul_pow (by omega)]
    have h2 : n * 2 ^ k / 2 ^ (tz n + k) = n / 2 ^ tz n := by
      rw [Nat.pow_add, Nat.mul_div_mul_right _ _ (Nat.two_pow_pos k)]
    have h3 : e - (k : Int) + ((tz n + k : Nat) : Int) = e + (tz n : Int) := by omega
    rw [h2, h3]
theorem sgI_cases (b : Bool) : sgI b = -1 ∧ b = true ∨ sgI b = 1 ∧ b = false := by cases b <;> simp [sgI]
theorem sg_nat (neg : Bool) (n : Nat) (h0 : n ≠ 0) : decide (sgI neg * (n : Int) < 0) = neg ∧ (sgI neg * (n : Int)).natAbs = n := by
  cases neg <;> simp [sgI] <;> omega
theorem fitS_Z {neg : Bool} {n : Nat} {e : Int} (he : -8388608 ≤ e) : fitS neg n e = fitZ (sgI neg * ((n * 2 ^ (e + (SS : Int)).toNat : Nat) : Int)) := by
  unfold fitZ
  rcases Nat.eq_zero_or_pos n with rfl | h0
  · rw [Nat.zero_mul, fitS_zero]
    simp [fitS_zero]
  · have h1 : n * 2 ^ (e + (SS : Int)).toNat ≠ 0 := by have := Nat.mul_pos h0 (Nat.two_pow_pos (e + (SS : Int)).toNat); omega
    obtain ⟨g1, g2⟩ := sg_nat neg _ h1
    rw [g1, g2]
    have h2 := fitS_shift neg n (e + (SS : Int)).toNat e
    rw [show e - ((e + (SS : Int)).toNat : Int) = -(SS : Int) by have := SS_eq; omega] at h2
    exact h2.symm
theorem val_mod2 {xs : List Nat} : val BB xs % 2 = nth xs 0 % 2 := by
  cases xs with
  | nil => rfl
  | cons x xs =>
    simp only [val, nth, List.getD_cons_zero]
    have : BB = 2 * 2 ^ 63 := by decide
    rw [this, Nat.mul_assoc, Nat.add_mul_mod_self_left]
theorem mayD_zero {d : Dy} (h : mayD d = true) (h0 : d.m.length = 0) : d = Dy.zero := by
  unfold mayD at h
  rw [if_pos h0] at h
  obtain ⟨n, m, e⟩ := d
  simp only [Bool.and_eq_true, decide_eq_true_eq] at h h0
  obtain rfl := List.length_eq_zero_iff.1 h0
  cases n
  · rw [h.2]; rfl
  · simp at h
theorem mayD_val {d : Dy} (h : mayD d = true) (h0 : d.m.length ≠ 0) : val BB d.m % 2 = 1 ∧ val BB d.m ≠ 0 := by
  have ho : val BB d.m % 2 = 1 := by
    rw [val_mod2]
    unfold mayD at h
    rw [if_neg h0] at h
    simp only [Bool.and_eq_true, decide_eq_true_eq] at h
    exact h.1.1.2
  exact ⟨ho, fun e => by rw [e] at ho; omega⟩
/-- A Dyad that may be comes out as it is. -/
theorem fit_may {d : Dy} (hl : Lim BB d.m) (h : mayD d = true) : fitS d.neg (val BB d.m) d.e = (d, 0) := by
  by_cases h0 : d.m.length = 0
  · rw [mayD_zero h h0]
    exact fitS_zero _ _
  · obtain ⟨ho, hv⟩ := mayD_val h h0
    obtain ⟨hC, h64, he1, he2⟩ := mayD_limbs h
    rw [fitS_eq hv, tz_odd ho, Nat.pow_zero, Nat.div_one, limbs_of BB_gt1 hl hC rfl, if_neg (by omega), if_pos (by omega)]
    simp
theorem fit_Z {d : Dy} (hl : Lim BB d.m) (h : mayD d = true) : fitZ (ZD d) = (d, 0) := by
  rw [← fit_may hl h, fitS_Z (by have := (mayD_limbs h).2.2; omega)]
  rfl
theorem ZD_nil {d : Dy} (h0 : d.m.length = 0) : ZD d = 0 := by
  unfold ZD
  rw [List.length_eq_zero_iff.1 h0]
  simp
theorem big_len {n : Nat} (h : BB ^ 64 ≤ n) : ¬ (limbs BB n).length ≤ 64 := by
  rw [limbs_len_le BB_gt1]
  omega
theorem far_aux {j a P Q : Nat} (hP : P = 2 ^ j) (h : j + 1 ≤ a) (hq : 2 ^ a ≤ Q) : 2 * P ≤ Q := by
  have h3 : 2 ^ (j + 1) ≤ 2 ^ a := Nat.pow_le_pow_right (by omega) h
  rw [Nat.pow_succ, ← hP] at h3
  omega
/-- Far from each other: too long. -/
theorem far_big {A B k : Nat} (hA : A ≠ 0) (hB : B % 2 = 1) (hBl : B < BB ^ 64) (hk : 1 ≤ k) (hf : 4098 ≤ blen A + k) (neg : Bool) (e : Int) :
    fitS neg (A * 2 ^ k + B) e = (Dy.zero, 2) ∧ B ≤ A * 2 ^ k ∧ fitS neg (A * 2 ^ k - B) e = (Dy.zero, 2) := by
  have h1 := pow_le_blen hA
  have hp := blen_pos.2 hA
  have h2 : 2 ^ (blen A - 1) * 2 ^ k ≤ A * 2 ^ k := Nat.mul_le_mul_right _ h1
  rw [← Nat.pow_add] at h2
  have h3 := far_aux (pow_BB 64) (by omega) h2
  have h5 : A * 2 ^ k % 2 = 0 := by
    rw [show k = (k - 1) + 1 by omega, Nat.pow_succ, ← Nat.mul_assoc]
    exact Nat.mul_mod_left _ _
  have hbl := @big_len
  generalize BB ^ 64 = P at *
  generalize A * 2 ^ k = Q at *
  have key : ∀ n, n % 2 = 1 → P ≤ n → fitS neg n e = (Dy.zero, 2) := by
    intro n ho hn
    rw [fitS_eq (by omega), tz_odd ho, Nat.pow_zero, Nat.div_one, if_pos (hbl hn)]
  exact ⟨key _ (by omega) (by omega), by omega, key _ (by omega) (by omega)⟩
theorem pow_scale (A : Nat) {a b : Int} (h : b ≤ a) (hb : -8388608 ≤ b) : A * 2 ^ (a - b).toNat * 2 ^ (b + (SS : Int)).toNat = A * 2 ^ (a + (SS : Int)).toNat := by
  rw [Nat.mul_assoc, ← Nat.pow_add]
  congr 2
  have := SS_eq
  omega
theorem sumO_Z {a b : Dy} (ha : mayD a = true) (hb : mayD b = true) (lb : Lim BB b.m) (a0 : a.m.length ≠ 0) (b0 : b.m.length ≠ 0) (hle : b.e ≤ a.e) : sumO a b = fitZ (ZD a + ZD b) := by
  obtain ⟨ao, av⟩ := mayD_val ha a0
  obtain ⟨bo, bv⟩ := mayD_val hb b0
  obtain ⟨_, _, ae1, ae2⟩ := mayD_limbs ha
  obtain ⟨_, b64, be1, be2⟩ := mayD_limbs hb
  have hs := pow_scale (val BB a.m) hle (by omega)
  have hbl : val BB b.m < BB ^ 64 := Nat.lt_of_lt_of_le (val_lt lb) (Nat.pow_le_pow_right BB_pos b64)
  have ea : ZD a = sgI a.neg * ((val BB a.m * 2 ^ (a.e - b.e).toNat * 2 ^ (b.e + (SS : Int)).toNat : Nat) : Int) := by unfold ZD; rw [hs]
  have eb : ZD b = sgI b.neg * ((val BB b.m * 2 ^ (b.e + (SS : Int)).toNat : Nat) : Int) := rfl
  have hF := fun (h1 : 1 ≤ (a.e - b.e).toNat) (h2 : 4098 ≤ blen (val BB a.m) + (a.e - b.e).toNat) neg e => far_big (k := (a.e - b.e).toNat) av bo hbl h1 h2 neg e
  rw [ea, eb]
  unfold sumO
  generalize (val BB a.m * 2 ^ (a.e - b.e).toNat) = Q at *
  generalize hP : 2 ^ (b.e + (SS : Int)).toNat = P at *
  have hZ := fun neg n => fitS_Z (neg := neg) (n := n) (e := b.e) (by omega)
  rw [hP] at hZ
  have c1 : sgI a.neg * ((Q * P : Nat) : Int) + sgI a.neg * ((val BB b.m * P : Nat) : Int) = sgI a.neg * (((Q + val BB b.m) * P : Nat) : Int) := by rw [Nat.add_mul, ← Int.mul_add, ← Int.natCast_add]
  have c2 : val BB b.m ≤ Q → a.neg ≠ b.neg → sgI a.neg * ((Q * P : Nat) : Int) + sgI b.neg * ((val BB b.m * P : Nat) : Int) = sgI a.neg * (((Q - val BB b.m) * P : Nat) : Int) := by
    intro h1 h2
    have h3 : val BB b.m * P ≤ Q * P := Nat.mul_le_mul_right _ h1
    rw [Nat.sub_mul, Int.ofNat_sub h3]
    rcases sgI_cases a.neg with ⟨g1, g2⟩ | ⟨g1, g2⟩ <;> rcases sgI_cases b.neg with ⟨g3, g4⟩ | ⟨g3, g4⟩ <;> rw [g1, g3] <;> first | exact absurd (g2.trans g4.symm) h2 | (generalize ((Q * P : Nat) : Int) = T1; generalize ((val BB b.m * P : Nat) : Int) = T2; omega)
  have c3 : ¬ val BB b.m ≤ Q → a.neg ≠ b.neg → sgI a.neg * ((Q * P : Nat) : Int) + sgI b.neg * ((val BB b.m * P : Nat) : Int) = sgI b.neg * (((val BB b.m - Q) * P : Nat) : Int) := by
    intro h1 h2
    have h3 : Q * P ≤ val BB b.m * P := Nat.mul_le_mul_right _ (by omega)
    rw [Nat.sub_mul, Int.ofNat_sub h3]
    rcases sgI_cases a.neg with ⟨g1, g2⟩ | ⟨g1, g2⟩ <;> rcases sgI_cases b.neg with ⟨g3, g4⟩ | ⟨g3, g4⟩ <;> rw [g1, g3] <;> first | exact absurd (g2.trans g4.symm) h2 | (generalize ((Q * P : Nat) : Int) = T1; generalize ((val BB b.m * P : Nat) : Int) = T2; omega)
  by_cases hn : a.e = b.e ∨ a.e - b.e ≤ 4097 - (blen (val BB a.m) : Int)
  · rw [if_pos hn]
    by_cases hg : a.neg = b.neg
    · rw [if_pos hg, hZ, ← hg, c1]
    · rw [if_neg hg]
      by_cases hq : val BB b.m ≤ Q
      · rw [if_pos hq, hZ, c2 hq hg]
      · rw [if_neg hq, hZ, c3 hq hg]
  · rw [if_neg hn]
    obtain ⟨f1, f2, f3⟩ := hF (by omega) (by omega) a.neg b.e
    by_cases hg : a.neg = b.neg
    · rw [← hg, c1, ← hZ, f1]
    · rw [c2 f2 hg, ← hZ, f3]
theorem sumS_Z {a b : Dy} (ha : mayD a = true) (la : Lim BB a.m) (hb : mayD b = true) (lb : Lim BB b.m) : sumS a b = fitZ (ZD a + ZD b) := by
  unfold sumS
  by_cases a0 : a.m.length = 0
  · rw [if_pos a0, ZD_nil a0, Int.zero_add, fit_Z lb hb]
  · rw [if_neg a0]
    by_cases b0 : b.m.length = 0
    · rw [if_pos b0, ZD_nil b0, Int.add_zero, fit_Z la ha]
    · rw [if_neg b0]
      by_cases hlt : a.e < b.e
      · rw [if_pos hlt, sumO_Z hb ha la b0 a0 (by omega), Int.add_comm]
      · rw [if_neg hlt, sumO_Z ha hb lb a0 b0 (by omega)]
theorem twoS_of {a b : Dy} {r : Dy × Int} (ha : mayD a = true) (hb : mayD b = true) : twoS a b r = r := by unfold twoS; rw [ha, hb]; rfl
end Go.Proofs.YtbpfnooloemieaaGreatDoor
namespace Go.Proofs.YtbpfnooloemieaaGreatDoor
open Go.RowKit Pl

/-- The order of whole numbers. -/
def cmpI (x y : Int) : Int := if x < y then -1 else if y < x then 1 else 0
/-- How great a Dyad is, without its sign, so scaled. -/
def magD (d : Dy) : Nat := val BB d.m * 2 ^ (d.e + (SS : Int)).toNat
theorem ZD_mag (d : Dy) : ZD d = sgI d.neg * ((magD d : Nat) : Int) := rfl
theorem magD_pos {d : Dy} (h : mayD d = true) (h0 : d.m.length ≠ 0) : 0 < magD d := Nat.mul_pos (Nat.pos_of_ne_zero (mayD_val h h0).2) (Nat.two_pow_pos _)
theorem signD_Z {d : Dy} (h : mayD d = true) : (signD d = 0 ∧ ZD d = 0 ∧ d.m.length = 0) ∨ (signD d = 1 ∧ 0 < ZD d ∧ d.neg = false ∧ d.m.length ≠ 0) ∨ (signD d = -1 ∧ ZD d < 0 ∧ d.neg = true ∧ d.m.length ≠ 0) := by
  unfold signD
  by_cases h0 : d.m.length = 0
  · exact .inl ⟨by simp [h0], ZD_nil h0, h0⟩
  · have hp := magD_pos h h0
    have e : (!mayD d || decide (d.m.length = 0)) = false := by simp [h, h0]
    rw [e, ZD_mag]
    cases hn : d.neg
    · exact .inr (.inl ⟨by simp, by simp [sgI]; omega, rfl, h0⟩)
    · exact .inr (.inr ⟨by simp, by simp [sgI]; omega, rfl, h0⟩)
theorem cmpN_mul {x y P : Nat} (hP : 0 < P) : cmpN (x * P) (y * P) = cmpN x y := by
  unfold cmpN
  simp only [Nat.mul_lt_mul_right hP]
theorem mag_lt {a b : Dy} (ha : mayD a = true) (hb : mayD b = true) (b0 : b.m.length ≠ 0) (h : (blen (val BB a.m) : Int) + a.e < (blen (val BB b.m) : Int) + b.e) : magD a < magD b := by
  obtain ⟨_, _, ae1, ae2⟩ := mayD_limbs ha
  obtain ⟨_, _, be1, be2⟩ := mayD_limbs hb
  obtain ⟨_, bv⟩ := mayD_val hb b0
  have h1 := blen_lt_pow (val BB a.m)
  have h2 := pow_le_blen bv
  have h3 := blen_pos.2 bv
  have hS := SS_eq
  unfold magD
  calc val BB a.m * 2 ^ (a.e + (SS : Int)).toNat < 2 ^ blen (val BB a.m) * 2 ^ (a.e + (SS : Int)).toNat := (Nat.mul_lt_mul_right (Nat.two_pow_pos _)).2 h1
    _ = 2 ^ (blen (val BB a.m) + (a.e + (SS : Int)).toNat) := by rw [Nat.pow_add]
    _ ≤ 2 ^ (blen (val BB b.m) - 1 + (b.e + (SS : Int)).toNat) := Nat.pow_le_pow_right (by omega) (by omega)
    _ = 2 ^ (blen (val BB b.m) - 1) * 2 ^ (b.e + (SS : Int)).toNat := by rw [Nat.pow_add]
    _ ≤ val BB b.m * 2 ^ (b.e + (SS : Int)).toNat := Nat.mul_le_mul_right _ h2
theorem cmpSize_mag {a b : Dy} (ha : mayD a = true) (la : Lim BB a.m) (hb : mayD b = true) (lb : Lim BB b.m) (a0 : a.m.length ≠ 0) (b0 : b.m.length ≠ 0) : cmpSize a b = cmpN (magD a) (magD b) := by
  obtain ⟨aC, _, ae1, ae2⟩ := mayD_limbs ha
  obtain ⟨bC, _, be1, be2⟩ := mayD_limbs hb
  have hS := SS_eq
  unfold cmpSize
  rw [sizeN_can la aC, sizeN_can lb bC]
  by_cases h1 : (blen (val BB a.m) : Int) + a.e < (blen (val BB b.m) : Int) + b.e
  · rw [if_pos h1]
    exact (cmpN_lt0 (mag_lt ha hb b0 h1)).symm
  · rw [if_neg h1]
    by_cases h2 : (blen (val BB b.m) : Int) + b.e < (blen (val BB a.m) : Int) + a.e
    · rw [if_pos h2]
      exact (cmpN_gt0 (mag_lt hb ha a0 h2)).symm
    · rw [if_neg h2, ← cmpN_mul (P := 2 ^ (min a.e b.e + (SS : Int)).toNat) (Nat.two_pow_pos _)]
      rw [pow_scale _ (Int.min_le_left _ _) (by omega), pow_scale _ (Int.min_le_right _ _) (by omega)]
      rfl
theorem cmpD_Z {a b : Dy} (ha : mayD a = true) (la : Lim BB a.m) (hb : mayD b = true) (lb : Lim BB b.m) : cmpD a b = cmpI (ZD a) (ZD b) := by
  unfold cmpD
  rw [if_neg (by rw [ha, hb]; simp)]
  unfold cmpI
  rcases signD_Z ha with ⟨s1, z1, n1⟩ | ⟨s1, z1, g1, n1⟩ | ⟨s1, z1, g1, n1⟩ <;> rcases signD_Z hb with ⟨s2, z2, n2⟩ | ⟨s2, z2, g2, n2⟩ | ⟨s2, z2, g2, n2⟩ <;> rw [s1, s2]
  · rw [z1, z2]; rfl
  · rw [if_pos (by omega), if_pos (by omega)]
  · rw [if_neg (by omega), if_pos (by omega), if_neg (by omega), if_pos (by omega)]
  · rw [if_neg (by omega), if_pos (by omega), if_neg (by omega), if_pos (by omega)]
  · have e1 : ZD a = ((magD a : Nat) : Int) := by rw [ZD_mag, g1]; simp [sgI]
    have e2 : ZD b = ((magD b : Nat) : Int) := by rw [ZD_mag, g2]; simp [sgI]
    rw [if_neg (by omega), if_neg (by omega), if_neg (by omega), cmpSize_mag ha la hb lb n1 n2, e1, e2]
    unfold cmpN
    rcases Nat.lt_trichotomy (magD a) (magD b) with h | h | h
    · rw [if_pos h, if_pos (by omega)]; rfl
    · rw [if_neg (by omega), if_neg (by omega), if_neg (by omega), if_neg (by omega)]; rfl
    · rw [if_neg (by omega), if_pos h, if_neg (by omega), if_pos (by omega)]; rfl
  · rw [if_neg (by omega), if_pos (by omega), if_neg (by omega), if_pos (by omega)]
  · rw [if_pos (by omega), if_pos (by omega)]
  · rw [if_pos (by omega), if_pos (by omega)]
  · have e1 : ZD a = -((magD a : Nat) : Int) := by rw [ZD_mag, g1]; simp [sgI]
    have e2 : ZD b = -((magD b : Nat) : Int) := by rw [ZD_mag, g2]; simp [sgI]
    rw [if_neg (by omega), if_neg (by omega), if_neg (by omega), cmpSize_mag ha la hb lb n1 n2, e1, e2]
    unfold cmpN
    rcases Nat.lt_trichotomy (magD a) (magD b) with h | h | h
    · rw [if_pos h, if_neg (by omega), if_pos (by omega)]; rfl
    · rw [if_neg (by omega), if_neg (by omega), if_neg (by omega), if_neg (by omega)]; rfl
    · rw [if_neg (by omega), if_pos h, if_pos (by omega)]; rfl
end Go.Proofs.YtbpfnooloemieaaGreatDoor
