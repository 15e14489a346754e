/- Contracts of package dyad, part M: two, Add, Sub, Mul. Printed by wip/mk_DyM.py. -/
import Derived.Test.YtaifjldpjkabjaaDoorDyL
import Derived.Deep.RegionHeld2
namespace Go.Proofs.YtaifjldpjkabjaaDoor
open Go.RowKit Pl
attribute [local go_sem ↓] Go.wp_at_zero Go.wp_at_succ

/-- Something of two that may be. -/
def twoS (a b : Dy) (r : Dy × Int) : Dy × Int := if (mayD a && mayD b) = true then r else (Dy.zero, 1)

set_option maxRecDepth 100000 in
set_option maxHeartbeats 4000000 in
theorem two1_any (g : FuncId) (b1 b2 b3 : Nat) (a b : Dy) (A : Option Addr) (n c : Nat) (B : Option Addr) (m d : Nat) (r : Dy × Int) (W : World)
    (hA : Box W b1 [.bool a.neg, .slice A n c, .int .i64 a.e] 24) (hB : Box W b2 [.bool b.neg, .slice B m d, .int .i64 b.e] 24) (hF : W.cell? ⟨b3, 0, none⟩ = some (.func (.func g) #[] #[]))
    (da : RdD W (.agg #[.bool a.neg, .slice A n c, .int .i64 a.e]) a) (db : RdD W (.agg #[.bool b.neg, .slice B m d, .int .i64 b.e]) b)
    (hen : ∀ args W, (callFunc g args).run Tryd.prog W = .ok (.enter g args) W)
    (hdo : mayD a = true → mayD b = true → ∀ W', Below W.heap.size W W' → Calls Tryd.prog g #[.agg #[.bool a.neg, .slice A n c, .int .i64 a.e], .agg #[.bool b.neg, .slice B m d, .int .i64 b.e]] W' (FitPost W' r)) :
    Calls Tryd.prog 111 #[.pointer (some ⟨b1, 0, none⟩), .pointer (some ⟨b2, 0, none⟩), .pointer (some ⟨b3, 0, none⟩)] W (FitPost W (twoS a b r)) := by
  obtain ⟨hC, hb0⟩ := box_1 W [.bool false, .slice none 0 0, .int .i64 0] 24
  have hA0 := hA.keep hb0
  have hB0 := hB.keep hb0
  have hF0 := (hb0.cell (p := ⟨b3, 0, none⟩) (lt_of_cell hF)).trans hF
  have hFl := Nat.lt_of_lt_of_le (lt_of_cell hF) hb0.size
  have da0 := da.below hb0
  have db0 := db.below hb0
  obtain ⟨an, am, ae⟩ := a
  obtain ⟨bn, bm, be⟩ := b
  simp only at hA0 hB0 da0 db0 hdo ⊢
  have HD := hide hdo
  clear hA hB hF da db hdo
  cases ma : mayD ⟨an, am, ae⟩
  · have HN : Hid (twoS ⟨an, am, ae⟩ ⟨bn, bm, be⟩ r = (Dy.zero, 1)) := by unfold Hid twoS; rw [ma]; rfl
    have a0 := hA0.cell 0 rfl
    have a1 := hA0.cell 1 rfl
    have a2 := hA0.cell 2 rfl
    go_enter Tryd.func111, Tryd.ntmps111
    go_upto_region 1 with fail
    generalize W.alloc (.cells #[.bool false, .slice none 0 0, .int .i64 0] 24) = W1 at *
    go_wp2_with fail
    refine (mayD_any _ _ _ da0).mono ?_
    rw [ma]
    rintro z w2 ⟨rfl, hb2⟩
    clear a0 a1 a2
    go_wp2_with fail
    refine (must_no _ _).mono ?_
    rintro z w' ⟨rfl, rfl⟩
    exact ⟨rfl, below_then hb0 hb2, .inr (by rw [HN.out]; exact ⟨by decide, rfl, rfl⟩)⟩
  cases mb : mayD ⟨bn, bm, be⟩
  · have HN : Hid (twoS ⟨an, am, ae⟩ ⟨bn, bm, be⟩ r = (Dy.zero, 1)) := by unfold Hid twoS; rw [ma, mb]; rfl
    have a0 := hA0.cell 0 rfl
    have a1 := hA0.cell 1 rfl
    have a2 := hA0.cell 2 rfl
    go_enter Tryd.func111, Tryd.ntmps111
    go_upto_region 1 with fail
    generalize W.alloc (.cells #[.bool false, .slice none 0 0, .int .i64 0] 24) = W1 at *
    go_wp2_with fail
    refine (mayD_any _ _ _ da0).mono ?_
    rw [ma]
    rintro z w2 ⟨rfl, hb2⟩
    have hB2 := hB0.keep hb2
    have db2 := db0.below hb2
    clear a0 a1 a2
    have a0 := hB2.cell 0 rfl
    have a1 := hB2.cell 1 rfl
    have a2 := hB2.cell 2 rfl
    go_wp2_with fail
    refine (mayD_any _ _ _ db2).mono ?_
    rw [mb]
    rintro z w3 ⟨rfl, hb3⟩
    clear a0 a1 a2
    go_wp2_with fail
    refine (must_no _ _).mono ?_
    rintro z w' ⟨rfl, rfl⟩
    exact ⟨rfl, below_then (below_then hb0 hb2) hb3, .inr (by rw [HN.out]; exact ⟨by decide, rfl, rfl⟩)⟩
  have HN : Hid (twoS ⟨an, am, ae⟩ ⟨bn, bm, be⟩ r = r) := by unfold Hid twoS; rw [ma, mb]; rfl
  have a0 := hA0.cell 0 rfl
  have a1 := hA0.cell 1 rfl
  have a2 := hA0.cell 2 rfl
  go_enter Tryd.func111, Tryd.ntmps111
  go_upto_region 1 with fail
  generalize W.alloc (.cells #[.bool false, .slice none 0 0, .int .i64 0] 24) = W1 at *
  go_wp2_with fail
  refine (mayD_any _ _ _ da0).mono ?_
  rw [ma]
  rintro z w2 ⟨rfl, hb2⟩
  have hA2 := hA0.keep hb2
  have hB2 := hB0.keep hb2
  have hF2 := (hb2.cell (p := ⟨b3, 0, none⟩) hFl).trans hF0
  have hC2 := hC.keep hb2
  have db2 := db0.below hb2
  have hb02 := below_then hb0 hb2
  have hFl2 := Nat.lt_of_lt_of_le hFl hb2.size
  clear a0 a1 a2 hA0 hB0 hF0 hC hb0 hb2 da0 db0 hFl
  have a0 := hB2.cell 0 rfl
  have a1 := hB2.cell 1 rfl
  have a2 := hB2.cell 2 rfl
  go_wp2_with fail
  refine (mayD_any _ _ _ db2).mono ?_
  rw [mb]
  rintro z w3 ⟨rfl, hb3⟩
  have hA3 := hA2.keep hb3
  have hB3 := hB2.keep hb3
  have hF3 := (hb3.cell (p := ⟨b3, 0, none⟩) hFl2).trans hF2
  have hC3 := hC2.keep hb3
  have hb03 := below_then hb02 hb3
  clear a0 a1 a2 hA2 hB2 hF2 hC2 hb02 hb3 db2 hFl2
  have a0 := hA3.cell 0 rfl
  have a1 := hA3.cell 1 rfl
  have a2 := hA3.cell 2 rfl
  have b0 := hB3.cell 0 rfl
  have b1 := hB3.cell 1 rfl
  have b2 := hB3.cell 2 rfl
  have HEN := hen
  go_wp2_with (go_at_call 65; (with_reducible refine (must_yes _ _).mono ?_); rintro e w' ⟨rfl, rfl⟩)
  refine (HD.out ma mb _ hb03).mono ?_
  rintro z w4 ⟨hb4, ⟨h0, v, rfl, hv⟩ | ⟨h0, hz, rfl⟩⟩
  · obtain ⟨A', n', c', rfl, hv1, hv2, hv3⟩ := hv
    have hC4 := hC3.keep hb4
    have f0 := hC4.frozen 0
    have f1 := hC4.frozen 1
    have f2 := hC4.frozen 2
    have d0 := hC4.cell 0 rfl
    have d1 := hC4.cell 1 rfl
    have d2 := hC4.cell 2 rfl
    obtain ⟨q0, q1, q2, HF⟩ := face_store ⟨_, _, _, _, _, hC4⟩ hv1 (below_then hb03 hb4) (Nat.le_refl _)
    clear hC3 hC4 hb03 hb4 hv1 hA3 hB3 hF3 a0 a1 a2 b0 b1 b2 HD HEN hen
    go_wp2
    exact bodyPost_ret (v := .agg #[.bool r.1.neg, .slice A' n' c', .int .i64 r.1.e]) (by simp [results, Tryd.results111, go_sem, q0, q1, q2]) rfl ⟨HF.out.2, .inl (by rw [HN.out]; exact ⟨h0, _, rfl, _, _, _, rfl, HF.out.1, hv2, hv3⟩)⟩
  · exact ⟨rfl, below_then hb03 hb4, .inr (by rw [HN.out]; exact ⟨h0, hz, rfl⟩)⟩

set_option maxRecDepth 100000 in
set_option maxHeartbeats 4000000 in
theorem two_any (g : FuncId) (a b : Dy) (A : Option Addr) (n c : Nat) (B : Option Addr) (m d : Nat) (r : Dy × Int) (w : World)
    (da : RdD w (.agg #[.bool a.neg, .slice A n c, .int .i64 a.e]) a) (db : RdD w (.agg #[.bool b.neg, .slice B m d, .int .i64 b.e]) b)
    (hen : ∀ args W, (callFunc g args).run Tryd.prog W = .ok (.enter g args) W)
    (hdo : mayD a = true → mayD b = true → ∀ W', Below w.heap.size w W' → Calls Tryd.prog g #[.agg #[.bool a.neg, .slice A n c, .int .i64 a.e], .agg #[.bool b.neg, .slice B m d, .int .i64 b.e]] W' (FitPost W' r)) :
    Calls Tryd.prog 75 #[.agg #[.bool a.neg, .slice A n c, .int .i64 a.e], .agg #[.bool b.neg, .slice B m d, .int .i64 b.e], .func (.func g) #[] #[]] w (FacePost w (twoS a b r)) := by
  have hmf := make_func
  obtain ⟨h1, h2, h3, hb0⟩ := box_3 w [.bool a.neg, .slice A n c, .int .i64 a.e] [.bool b.neg, .slice B m d, .int .i64 b.e] [.func (.func g) #[] #[]] 24 24 79
  obtain ⟨hC, hb1⟩ := box_1 (((w.alloc (.cells #[.bool a.neg, .slice A n c, .int .i64 a.e] 24)).alloc (.cells #[.bool b.neg, .slice B m d, .int .i64 b.e] 24)).alloc (.cells #[.func (.func g) #[] #[]] 79)) [.bool false, .slice none 0 0, .int .i64 0] 24
  have esz : (((w.alloc (.cells #[.bool a.neg, .slice A n c, .int .i64 a.e] 24)).alloc (.cells #[.bool b.neg, .slice B m d, .int .i64 b.e] 24)).alloc (.cells #[.func (.func g) #[] #[]] 79)).heap.size = w.heap.size + 1 + 1 + 1 := by simp
  have h1' := h1.keep hb1
  have h2' := h2.keep hb1
  have h3' := h3.keep hb1
  have hb := below_then hb0 hb1
  rw [esz] at hC
  have da0 := da.below hb
  have db0 := db.below hb
  have HD := hide (fun ha hb' W' (hW : Below _ _ W') => hdo ha hb' W' (below_then hb hW))
  have HEN := hide hen
  clear h1 h2 h3 hb0 hb1 esz hdo da db hen
  go_enter Tryd.func75, Tryd.ntmps75
  go_upto_region 1 with fail
  generalize (((w.alloc (.cells #[.bool a.neg, .slice A n c, .int .i64 a.e] 24)).alloc (.cells #[.bool b.neg, .slice B m d, .int .i64 b.e] 24)).alloc (.cells #[.func (.func g) #[] #[]] 79)).alloc (.cells #[.bool false, .slice none 0 0, .int .i64 0] 24) = W at *
  go_wp2_with fail
  refine (face_any 111 _ (twoS a b r) _ (enters Tryd.func111 (by kernel_rfl) rfl) (fun W' hW => two1_any g _ _ _ a b A n c B m d r W' (h1'.keep hW) (h2'.keep hW) ((h3'.keep hW).cell 0 rfl) (da0.below hW) (db0.below hW) HEN.out (fun ha hb' W'' hW' => HD.out ha hb' W'' (below_then hW hW')))).mono ?_
  rintro z w2 ⟨hb2, v, rfl, hv⟩
  obtain ⟨A', n', c', rfl, hv1, hv2, hv3⟩ := hv
  have hC2 := hC.keep hb2
  have f0 := hC2.frozen 0
  have f1 := hC2.frozen 1
  have f2 := hC2.frozen 2
  have d0 := hC2.cell 0 rfl
  have d1 := hC2.cell 1 rfl
  have d2 := hC2.cell 2 rfl
  obtain ⟨R, hR⟩ : ∃ R, R = twoS a b r := ⟨_, rfl⟩
  rw [← hR] at hv1 hv2 hv3 ⊢
  have HRR := hide hR
  clear hR
  obtain ⟨q0, q1, q2, HF⟩ := face_store ⟨_, _, _, _, _, hC2⟩ hv1 (below_then hb hb2) (show w.heap.size ≤ w.heap.size + 1 + 1 + 1 by omega)
  clear hC hC2 hb hb2 hv1 h1' h2' h3' da0 db0 HD HEN
  go_wp2
  exact bodyPost_ret (v := .tuple #[.agg #[.bool R.1.neg, .slice A' n' c', .int .i64 R.1.e], .int .i64 R.2]) (by simp [results, Tryd.results75, go_sem, q0, q1, q2]) rfl (by rw [← HRR.out]; exact ⟨HF.out.2, _, rfl, _, _, _, rfl, HF.out.1, hv2, hv3⟩)


/-- The difference of two that may be. -/
def subS (a b : Dy) : Dy × Int := sumS a (negS b)
theorem negS_may {d : Dy} (h : mayD d = true) : mayD (negS d) = true := by
  unfold negS
  split
  · rename_i h2
    have h0 : ¬ d.m.length = 0 := h2.2
    unfold mayD at h ⊢
    rw [if_neg h0] at h ⊢
    exact h
  · exact h
theorem negS_m (d : Dy) : (negS d).m = d.m := by unfold negS; split <;> rfl


set_option maxRecDepth 100000 in
set_option maxHeartbeats 4000000 in
theorem addD_any (u v : Value) (a b : Dy) (w : World) (h : RdD w u a) (k : RdD w v b) (hT : TabAt w) :
    Calls Tryd.prog 25 #[u, v] w (FacePost w (twoS a b (sumS a b))) := by
  have hd := h
  have kd := k
  obtain ⟨A, n, c, rfl, hr, hl, he1, he2⟩ := h
  obtain ⟨B, m, d, rfl, kr, kl, ke1, ke2⟩ := k
  obtain ⟨hA, hB, hC, hb0⟩ := box_3 w [.bool a.neg, .slice A n c, .int .i64 a.e] [.bool b.neg, .slice B m d, .int .i64 b.e] [.bool false, .slice none 0 0, .int .i64 0] 24 24 24
  have hd0 := hd.below hb0
  have kd0 := kd.below hb0
  have HT := hide (hT.below hb0)
  have a0 := hA.cell 0 rfl
  have a1 := hA.cell 1 rfl
  have a2 := hA.cell 2 rfl
  have b0 := hB.cell 0 rfl
  have b1 := hB.cell 1 rfl
  have b2 := hB.cell 2 rfl
  clear hd kd hr kr hT
  go_enter Tryd.func25, Tryd.ntmps25
  go_upto_region 1 with fail
  generalize ((w.alloc (.cells #[.bool a.neg, .slice A n c, .int .i64 a.e] 24)).alloc (.cells #[.bool b.neg, .slice B m d, .int .i64 b.e] 24)).alloc (.cells #[.bool false, .slice none 0 0, .int .i64 0] 24) = W at *
  go_wp2_with fail
  refine (two_any 76 a b A n c B m d (sumS a b) _ hd0 kd0 (enters Tryd.func76 (by kernel_rfl) rfl) (fun ha hb W' hW => sum_any _ _ a b W' (hd0.below hW) (kd0.below hW) ha hb (HT.out.below hW))).mono ?_
  rintro z w2 ⟨hb2, v, rfl, hv⟩
  obtain ⟨A', n', c', rfl, hv1, hv2, hv3⟩ := hv
  have hC2 := hC.keep hb2
  have f0 := hC2.frozen 0
  have f1 := hC2.frozen 1
  have f2 := hC2.frozen 2
  have d0 := hC2.cell 0 rfl
  have d1 := hC2.cell 1 rfl
  have d2 := hC2.cell 2 rfl
  obtain ⟨R, hR⟩ : ∃ R, R = twoS a b (sumS a b) := ⟨_, rfl⟩
  rw [← hR] at hv1 hv2 hv3 ⊢
  have HRR := hide hR
  clear hR
  obtain ⟨q0, q1, q2, HF⟩ := face_store ⟨_, _, _, _, _, hC2⟩ hv1 (below_then hb0 hb2) (show w.heap.size ≤ w.heap.size + 1 + 1 by omega)
  clear hC hC2 hb0 hb2 hv1 hA hB hd0 kd0 HT a0 a1 a2 b0 b1 b2
  go_wp2
  exact bodyPost_ret (v := .tuple #[.agg #[.bool R.1.neg, .slice A' n' c', .int .i64 R.1.e], .int .i64 R.2]) (by simp [results, Tryd.results25, go_sem, q0, q1, q2]) rfl (by rw [← HRR.out]; exact ⟨HF.out.2, _, rfl, _, _, _, rfl, HF.out.1, hv2, hv3⟩)


set_option maxRecDepth 100000 in
set_option maxHeartbeats 4000000 in
theorem mulD_any (u v : Value) (a b : Dy) (w : World) (h : RdD w u a) (k : RdD w v b) (hT : TabAt w) :
    Calls Tryd.prog 29 #[u, v] w (FacePost w (twoS a b (mulS a b))) := by
  have hd := h
  have kd := k
  obtain ⟨A, n, c, rfl, hr, hl, he1, he2⟩ := h
  obtain ⟨B, m, d, rfl, kr, kl, ke1, ke2⟩ := k
  obtain ⟨hA, hB, hC, hb0⟩ := box_3 w [.bool a.neg, .slice A n c, .int .i64 a.e] [.bool b.neg, .slice B m d, .int .i64 b.e] [.bool false, .slice none 0 0, .int .i64 0] 24 24 24
  have hd0 := hd.below hb0
  have kd0 := kd.below hb0
  have HT := hide (hT.below hb0)
  have a0 := hA.cell 0 rfl
  have a1 := hA.cell 1 rfl
  have a2 := hA.cell 2 rfl
  have b0 := hB.cell 0 rfl
  have b1 := hB.cell 1 rfl
  have b2 := hB.cell 2 rfl
  clear hd kd hr kr hT
  go_enter Tryd.func29, Tryd.ntmps29
  go_upto_region 1 with fail
  generalize ((w.alloc (.cells #[.bool a.neg, .slice A n c, .int .i64 a.e] 24)).alloc (.cells #[.bool b.neg, .slice B m d, .int .i64 b.e] 24)).alloc (.cells #[.bool false, .slice none 0 0, .int .i64 0] 24) = W at *
  go_wp2_with fail
  refine (two_any 83 a b A n c B m d (mulS a b) _ hd0 kd0 (enters Tryd.func83 (by kernel_rfl) rfl) (fun ha hb W' hW => mul1_any _ _ a b W' (hd0.below hW) (kd0.below hW) ha hb (HT.out.below hW))).mono ?_
  rintro z w2 ⟨hb2, v, rfl, hv⟩
  obtain ⟨A', n', c', rfl, hv1, hv2, hv3⟩ := hv
  have hC2 := hC.keep hb2
  have f0 := hC2.frozen 0
  have f1 := hC2.frozen 1
  have f2 := hC2.frozen 2
  have d0 := hC2.cell 0 rfl
  have d1 := hC2.cell 1 rfl
  have d2 := hC2.cell 2 rfl
  obtain ⟨R, hR⟩ : ∃ R, R = twoS a b (mulS a b) := ⟨_, rfl⟩
  rw [← hR] at hv1 hv2 hv3 ⊢
  have HRR := hide hR
  clear hR
  obtain ⟨q0, q1, q2, HF⟩ := face_store ⟨_, _, _, _, _, hC2⟩ hv1 (below_then hb0 hb2) (show w.heap.size ≤ w.heap.size + 1 + 1 by omega)
  clear hC hC2 hb0 hb2 hv1 hA hB hd0 kd0 HT a0 a1 a2 b0 b1 b2
  go_wp2
  exact bodyPost_ret (v := .tuple #[.agg #[.bool R.1.neg, .slice A' n' c', .int .i64 R.1.e], .int .i64 R.2]) (by simp [results, Tryd.results29, go_sem, q0, q1, q2]) rfl (by rw [← HRR.out]; exact ⟨HF.out.2, _, rfl, _, _, _, rfl, HF.out.1, hv2, hv3⟩)


set_option maxRecDepth 100000 in
set_option maxHeartbeats 4000000 in
theorem sub1_any (u v : Value) (a b : Dy) (w : World) (h : RdD w u a) (k : RdD w v b) (ha : mayD a = true) (hb : mayD b = true) (hT : TabAt w) :
    Calls Tryd.prog 82 #[u, v] w (FitPost w (subS a b)) := by
  have hd := h
  have kd := k
  obtain ⟨A, n, c, rfl, hr, hl, he1, he2⟩ := h
  obtain ⟨B, m, d, rfl, kr, kl, ke1, ke2⟩ := k
  have hbl : b.m.length ≤ 1000000 := by have := (mayD_limbs hb).2.1; omega
  obtain ⟨R, hR⟩ : ∃ R, R = subS a b := ⟨_, rfl⟩
  have HL : Hid (R = sumS a (negS b)) := hR
  rw [← hR]
  clear hR
  obtain ⟨hA, hB, hC, hb0⟩ := box_3 w [.bool a.neg, .slice A n c, .int .i64 a.e] [.bool b.neg, .slice B m d, .int .i64 b.e] [.bool false, .slice none 0 0, .int .i64 0] 24 24 24
  obtain ⟨S0, hH, sD, sK, sS, ⟨x0, x1, x2⟩, ⟨y0, y1, y2⟩, ⟨⟨c0, z0⟩, ⟨c1, z1⟩, ⟨c2, z2⟩, f0, f1, f2⟩, SB0, SZ0, SR0⟩ := held_open [] hA hB ⟨_, _, _, _, _, hC⟩ hb0 (show w.heap.size ≠ w.heap.size + 1 + 1 by omega) (show w.heap.size + 1 ≠ w.heap.size + 1 + 1 by omega) (Nat.le_refl _) (show w.heap.size ≤ w.heap.size + 1 + 1 by omega) (fun p hp => by cases hp)
  have SB := hide SB0
  have SZ := hide SZ0
  have DA := hide (fun w' (h : Kept S0 w') => hd.below (SB0 w' h))
  have DB := hide (fun w' (h : Kept S0 w') => kd.below (SB0 w' h))
  have HT := hide (fun w' (h : Kept S0 w') => hT.below (SB0 w' h))
  clear SB0 SZ0 SR0 hd kd hr kr hT hA hB hC hb0
  go_enter Tryd.func82, Tryd.ntmps82
  go_upto_region 1 with fail
  generalize ((w.alloc (.cells #[.bool a.neg, .slice A n c, .int .i64 a.e] 24)).alloc (.cells #[.bool b.neg, .slice B m d, .int .i64 b.e] 24)).alloc (.cells #[.bool false, .slice none 0 0, .int .i64 0] 24) = W at *
  go_region_held2 (Kept S0) (first | exact sD _ (by assumption) | assumption | exact sK _ _ (by assumption) hbA | exact sK _ _ (by assumption) hbF | exact sS _ (by assumption) _ _ _ _ _)
    (first
      | (go_at_call 37; (with_reducible refine (negD_any _ b _ (DB.out _ (by assumption)) hbl).mono ?_); rintro z wA ⟨⟨p, rfl, hp⟩, hbA⟩)
      | (go_at_call 76; (with_reducible refine (sum_any _ _ a (negS b) _ (DA.out _ (by assumption)) hp ha (negS_may hb) (HT.out _ (by assumption))).mono ?_); rintro z wF ⟨hbF, hcase⟩; rcases hcase with ⟨h0, v, rfl, hv⟩ | ⟨h0, hz, rfl⟩; rotate_left; (exact ⟨rfl, SB.out _ (sK _ _ (by assumption) hbF), .inr (by rw [HL.out]; exact ⟨h0, hz, rfl⟩)⟩); obtain ⟨A', n', c', rfl, hv1, hv2, hv3⟩ := hv))
  all_goals
    have hKF := sK _ _ (sK _ _ (sD _ hH) hbA) hbF
    rw [← HL.out] at h0 hv1 hv2 hv3 ⊢
    obtain ⟨q0, q1, q2, HF⟩ := face_store (SZ.out _ hKF) hv1 (SB.out _ hKF) (show w.heap.size ≤ w.heap.size + 1 + 1 by omega)
    clear hv1 hKF sD sK sS x0 x1 x2 y0 y1 y2 z0 z1 z2 f0 f1 f2
    go_wp2
    exact bodyPost_ret (v := .agg #[.bool R.1.neg, .slice A' n' c', .int .i64 R.1.e]) (by simp [results, Tryd.results82, go_sem, q0, q1, q2]) rfl ⟨HF.out.2, .inl ⟨h0, _, rfl, _, _, _, rfl, HF.out.1, hv2, hv3⟩⟩


set_option maxRecDepth 100000 in
set_option maxHeartbeats 4000000 in
theorem subD_any (u v : Value) (a b : Dy) (w : World) (h : RdD w u a) (k : RdD w v b) (hT : TabAt w) :
    Calls Tryd.prog 27 #[u, v] w (FacePost w (twoS a b (subS a b))) := by
  have hd := h
  have kd := k
  obtain ⟨A, n, c, rfl, hr, hl, he1, he2⟩ := h
  obtain ⟨B, m, d, rfl, kr, kl, ke1, ke2⟩ := k
  obtain ⟨hA, hB, hC, hb0⟩ := box_3 w [.bool a.neg, .slice A n c, .int .i64 a.e] [.bool b.neg, .slice B m d, .int .i64 b.e] [.bool false, .slice none 0 0, .int .i64 0] 24 24 24
  have hd0 := hd.below hb0
  have kd0 := kd.below hb0
  have HT := hide (hT.below hb0)
  have a0 := hA.cell 0 rfl
  have a1 := hA.cell 1 rfl
  have a2 := hA.cell 2 rfl
  have b0 := hB.cell 0 rfl
  have b1 := hB.cell 1 rfl
  have b2 := hB.cell 2 rfl
  clear hd kd hr kr hT
  go_enter Tryd.func27, Tryd.ntmps27
  go_upto_region 1 with fail
  generalize ((w.alloc (.cells #[.bool a.neg, .slice A n c, .int .i64 a.e] 24)).alloc (.cells #[.bool b.neg, .slice B m d, .int .i64 b.e] 24)).alloc (.cells #[.bool false, .slice none 0 0, .int .i64 0] 24) = W at *
  go_wp2_with fail
  refine (two_any 82 a b A n c B m d (subS a b) _ hd0 kd0 (enters Tryd.func82 (by kernel_rfl) rfl) (fun ha hb W' hW => sub1_any _ _ a b W' (hd0.below hW) (kd0.below hW) ha hb (HT.out.below hW))).mono ?_
  rintro z w2 ⟨hb2, v, rfl, hv⟩
  obtain ⟨A', n', c', rfl, hv1, hv2, hv3⟩ := hv
  have hC2 := hC.keep hb2
  have f0 := hC2.frozen 0
  have f1 := hC2.frozen 1
  have f2 := hC2.frozen 2
  have d0 := hC2.cell 0 rfl
  have d1 := hC2.cell 1 rfl
  have d2 := hC2.cell 2 rfl
  obtain ⟨R, hR⟩ : ∃ R, R = twoS a b (subS a b) := ⟨_, rfl⟩
  rw [← hR] at hv1 hv2 hv3 ⊢
  have HRR := hide hR
  clear hR
  obtain ⟨q0, q1, q2, HF⟩ := face_store ⟨_, _, _, _, _, hC2⟩ hv1 (below_then hb0 hb2) (show w.heap.size ≤ w.heap.size + 1 + 1 by omega)
  clear hC hC2 hb0 hb2 hv1 hA hB hd0 kd0 HT a0 a1 a2 b0 b1 b2
  go_wp2
  exact bodyPost_ret (v := .tuple #[.agg #[.bool R.1.neg, .slice A' n' c', .int .i64 R.1.e], .int .i64 R.2]) (by simp [results, Tryd.results27, go_sem, q0, q1, q2]) rfl (by rw [← HRR.out]; exact ⟨HF.out.2, _, rfl, _, _, _, rfl, HF.out.1, hv2, hv3⟩)

end Go.Proofs.YtaifjldpjkabjaaDoor
