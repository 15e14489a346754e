/- Contracts of package dyad, part L: Fit, Norm, Of, two, Add, Sub, Mul. Printed by wip/mk_DyL.py. -/
import Derived.Test.YtaifjldpjkabjaaDoorDyK
namespace Go.Proofs.YtaifjldpjkabjaaDoor
open Go.RowKit Pl
attribute [local go_sem ↓] Go.wp_at_zero Go.wp_at_succ

/-- A face's answer, stored into a variable of the call's own. -/
theorem face_store {w0 w1 : World} {B g : Nat} {t : TypeId} {A : Option Addr} {n c : Nat} {d : Dy} (hC : SomeDy w1 g t) (hr : RdN .u64 w1 A n c d.m) (hb : Below B w0 w1) (hB : B ≤ g) :
    (((w1.setCell ⟨g, 0, none⟩ (.bool d.neg)).setCell ⟨g, 1, none⟩ (.slice A n c)).setCell ⟨g, 2, none⟩ (.int .i64 d.e)).cell? ⟨g, 0, none⟩ = some (.bool d.neg) ∧
    (((w1.setCell ⟨g, 0, none⟩ (.bool d.neg)).setCell ⟨g, 1, none⟩ (.slice A n c)).setCell ⟨g, 2, none⟩ (.int .i64 d.e)).cell? ⟨g, 1, none⟩ = some (.slice A n c) ∧
    (((w1.setCell ⟨g, 0, none⟩ (.bool d.neg)).setCell ⟨g, 1, none⟩ (.slice A n c)).setCell ⟨g, 2, none⟩ (.int .i64 d.e)).cell? ⟨g, 2, none⟩ = some (.int .i64 d.e) ∧
    Hid (RdN .u64 (((w1.setCell ⟨g, 0, none⟩ (.bool d.neg)).setCell ⟨g, 1, none⟩ (.slice A n c)).setCell ⟨g, 2, none⟩ (.int .i64 d.e)) A n c d.m ∧
      Below B w0 (((w1.setCell ⟨g, 0, none⟩ (.bool d.neg)).setCell ⟨g, 1, none⟩ (.slice A n c)).setCell ⟨g, 2, none⟩ (.int .i64 d.e))) := by
  obtain ⟨g9, A9, n9, c9, e9, hz⟩ := hC
  have h := hz.store3 (.bool d.neg) (.slice A n c) (.int .i64 d.e)
  exact ⟨h.cell 0 rfl, h.cell 1 rfl, h.cell 2 rfl, hr.store3 hz _ _ _ (dy_no _ _ _ ⟨_, _, _, rfl⟩) (dy_no _ _ _ ⟨_, _, _, rfl⟩), below_store3 hb hB _ _ _⟩
theorem SomeDy.keep {w w' : World} {b : Nat} {t : TypeId} (h : SomeDy w b t) (hb : Below w.heap.size w w') : SomeDy w' b t := by
  obtain ⟨g, A, n, c, e, hz⟩ := h; exact ⟨g, A, n, c, e, hz.keep hb⟩
theorem make_func : ∀ (fn : Fn) (first cap : Array Value) (w : World), (Instr.makeFunc fn first cap).run Tryd.prog w = .ok (.func fn first cap) w := fun _ _ _ _ => rfl


set_option maxRecDepth 100000 in
set_option maxHeartbeats 4000000 in
theorem fit1_any (g1 g2 g3 : Nat) (neg : Bool) (A : Option Addr) (n c : Nat) (xs : List Nat) (e : Int) (W : World) (h1 : W.cell? ⟨g1, 0, none⟩ = some (.bool neg)) (h2 : W.cell? ⟨g2, 0, none⟩ = some (.slice A n c)) (h3 : W.cell? ⟨g3, 0, none⟩ = some (.int .i64 e))
    (hr : RdN .u64 W A n c xs) (hl : Lim BB xs) (hC0 : Cnl xs) (hn : n ≤ 10000) (he1 : -9223372036854775808 ≤ e) (he2 : e ≤ 9223372036854775807) (hT : TabAt W) :
    Calls Tryd.prog 108 #[.pointer (some ⟨g1, 0, none⟩), .pointer (some ⟨g2, 0, none⟩), .pointer (some ⟨g3, 0, none⟩)] W (FitPost W (fitS neg (val BB xs) e)) := by
  obtain ⟨hC, hb0⟩ := box_1 W [.bool false, .slice none 0 0, .int .i64 0] 24
  have k1 := (hb0.cell (p := ⟨g1, 0, none⟩) (lt_of_cell h1)).trans h1
  have k2 := (hb0.cell (p := ⟨g2, 0, none⟩) (lt_of_cell h2)).trans h2
  have k3 := (hb0.cell (p := ⟨g3, 0, none⟩) (lt_of_cell h3)).trans h3
  have l1 := Nat.lt_of_lt_of_le (lt_of_cell h1) hb0.size
  have l2 := Nat.lt_of_lt_of_le (lt_of_cell h2) hb0.size
  have l3 := Nat.lt_of_lt_of_le (lt_of_cell h3) hb0.size
  have hr0 := hr.below hb0
  have HT := hide (hT.below hb0)
  clear h1 h2 h3 hT hr
  go_enter Tryd.func108, Tryd.ntmps108
  go_upto_region 1 with fail
  generalize W.alloc (.cells #[.bool false, .slice none 0 0, .int .i64 0] 24) = W1 at *
  go_wp2_with fail
  refine (fit_any _ _ _ _ _ _ _ hr0 hl hC0 hn he1 he2 HT.out).mono ?_
  rintro z w2 ⟨hb2, ⟨h0, v, rfl, hv⟩ | ⟨h0, hz, rfl⟩⟩
  · obtain ⟨A', n', c', rfl, hv1, hv2, hv3⟩ := hv
    have hC2 : SomeDy w2 W.heap.size 24 := ⟨_, _, _, _, _, hC.keep hb2⟩
    have f0 := (hC.keep hb2).frozen 0
    have f1 := (hC.keep hb2).frozen 1
    have f2 := (hC.keep hb2).frozen 2
    have d0 := (hC.keep hb2).cell 0 rfl
    have d1 := (hC.keep hb2).cell 1 rfl
    have d2 := (hC.keep hb2).cell 2 rfl
    obtain ⟨R, hR⟩ : ∃ R, R = fitS neg (val BB xs) e := ⟨_, rfl⟩
    rw [← hR] at h0 hv1 hv2 hv3 ⊢
    have HRR := hide hR
    clear hR
    obtain ⟨q0, q1, q2, HF⟩ := face_store hC2 hv1 (below_then hb0 hb2) (Nat.le_refl _)
    clear hC hC2 hb0 hb2 hv1 hr0 HT
    go_wp2
    exact bodyPost_ret (v := .agg #[.bool R.1.neg, .slice A' n' c', .int .i64 R.1.e]) (by simp [results, Tryd.results108, go_sem, q0, q1, q2]) rfl ⟨HF.out.2, .inl (by rw [← HRR.out]; exact ⟨h0, _, rfl, _, _, _, rfl, HF.out.1, hv2, hv3⟩)⟩
  · exact ⟨rfl, below_then hb0 hb2, .inr ⟨h0, hz, rfl⟩⟩

/-- dyad.Norm. -/
def normS (neg : Bool) (xs : List Nat) (e : Int) : Dy × Int := if mayN xs = true then fitS neg (val BB xs) e else (Dy.zero, 1)


set_option maxRecDepth 100000 in
set_option maxHeartbeats 4000000 in
theorem norm1_any (g1 g2 g3 : Nat) (neg : Bool) (A : Option Addr) (n c : Nat) (xs : List Nat) (e : Int) (W : World) (h1 : W.cell? ⟨g1, 0, none⟩ = some (.bool neg)) (h2 : W.cell? ⟨g2, 0, none⟩ = some (.slice A n c)) (h3 : W.cell? ⟨g3, 0, none⟩ = some (.int .i64 e))
    (hr : RdN .u64 W A n c xs) (hl : Lim BB xs) (he1 : -9223372036854775808 ≤ e) (he2 : e ≤ 9223372036854775807) (hT : TabAt W) :
    Calls Tryd.prog 64 #[.pointer (some ⟨g2, 0, none⟩), .pointer (some ⟨g1, 0, none⟩), .pointer (some ⟨g3, 0, none⟩)] W (FitPost W (normS neg xs e)) := by
  obtain ⟨hC, hb0⟩ := box_1 W [.bool false, .slice none 0 0, .int .i64 0] 24
  have k1 := (hb0.cell (p := ⟨g1, 0, none⟩) (lt_of_cell h1)).trans h1
  have k2 := (hb0.cell (p := ⟨g2, 0, none⟩) (lt_of_cell h2)).trans h2
  have k3 := (hb0.cell (p := ⟨g3, 0, none⟩) (lt_of_cell h3)).trans h3
  have l1 := Nat.lt_of_lt_of_le (lt_of_cell h1) hb0.size
  have l2 := Nat.lt_of_lt_of_le (lt_of_cell h2) hb0.size
  have l3 := Nat.lt_of_lt_of_le (lt_of_cell h3) hb0.size
  have hr0 := hr.below hb0
  have HT := hide (hT.below hb0)
  clear h1 h2 h3 hT hr
  have hlen := hr0.len
  cases hm : mayN xs
  · have HN : Hid (normS neg xs e = (Dy.zero, 1)) := by unfold Hid normS; rw [if_neg (by rw [hm]; decide)]
    go_enter Tryd.func64, Tryd.ntmps64
    go_upto_region 1 with fail
    generalize W.alloc (.cells #[.bool false, .slice none 0 0, .int .i64 0] 24) = W1 at *
    go_wp2_with (go_at_call 66; refine (may_any _ _ _ _ _ hr0).mono ?_; rw [hm]; rintro e w' ⟨rfl, rfl⟩)
    refine (must_no _ _).mono ?_
    rintro z w' ⟨rfl, rfl⟩
    exact ⟨rfl, hb0, .inr (by rw [HN.out]; exact ⟨by decide, rfl, rfl⟩)⟩
  have HN : Hid (normS neg xs e = fitS neg (val BB xs) e) := by unfold Hid normS; rw [if_pos hm]
  have hC0 := (mayN_can hm).1
  have hn : n ≤ 10000 := by have := (mayN_can hm).2; omega
  go_enter Tryd.func64, Tryd.ntmps64
  go_upto_region 1 with fail
  generalize W.alloc (.cells #[.bool false, .slice none 0 0, .int .i64 0] 24) = W1 at *
  go_wp2_with (first | (go_at_call 66; refine (may_any _ _ _ _ _ hr0).mono ?_; rw [hm]; rintro e w' ⟨rfl, rfl⟩) | (go_at_call 65; (with_reducible refine (must_yes _ _).mono ?_); rintro e w' ⟨rfl, rfl⟩))
  refine (fit_any _ _ _ _ _ _ _ hr0 hl hC0 hn he1 he2 HT.out).mono ?_
  rintro z w2 ⟨hb2, ⟨h0, v, rfl, hv⟩ | ⟨h0, hz, rfl⟩⟩
  · obtain ⟨A', n', c', rfl, hv1, hv2, hv3⟩ := hv
    have hC2 : SomeDy w2 W.heap.size 24 := ⟨_, _, _, _, _, hC.keep hb2⟩
    have f0 := (hC.keep hb2).frozen 0
    have f1 := (hC.keep hb2).frozen 1
    have f2 := (hC.keep hb2).frozen 2
    have d0 := (hC.keep hb2).cell 0 rfl
    have d1 := (hC.keep hb2).cell 1 rfl
    have d2 := (hC.keep hb2).cell 2 rfl
    obtain ⟨R, hR⟩ : ∃ R, R = fitS neg (val BB xs) e := ⟨_, rfl⟩
    rw [← hR] at h0 hv1 hv2 hv3 ⊢
    have HRR := hide hR
    clear hR
    obtain ⟨q0, q1, q2, HF⟩ := face_store hC2 hv1 (below_then hb0 hb2) (Nat.le_refl _)
    clear hC hC2 hb0 hb2 hv1 hr0 HT
    go_wp2
    exact bodyPost_ret (v := .agg #[.bool R.1.neg, .slice A' n' c', .int .i64 R.1.e]) (by simp [results, Tryd.results64, go_sem, q0, q1, q2]) rfl ⟨HF.out.2, .inl (by rw [HN.out, ← HRR.out]; exact ⟨h0, _, rfl, _, _, _, rfl, HF.out.1, hv2, hv3⟩)⟩
  · exact ⟨rfl, below_then hb0 hb2, .inr (by rw [HN.out]; exact ⟨h0, hz, rfl⟩)⟩


set_option maxRecDepth 100000 in
set_option maxHeartbeats 4000000 in
theorem fitF_any (neg : Bool) (A : Option Addr) (n c : Nat) (xs : List Nat) (e : Int) (w : World) (hr : RdN .u64 w A n c xs) (hl : Lim BB xs) (hC0 : Cnl xs) (hn : n ≤ 10000) (he1 : -9223372036854775808 ≤ e) (he2 : e ≤ 9223372036854775807) (hT : TabAt w) :
    Calls Tryd.prog 72 #[.bool neg, .slice A n c, .int .i64 e] w (FacePost w (fitS neg (val BB xs) e)) := by
  have hmf := make_func
  obtain ⟨h1, h2, h3, hb0⟩ := box_3 w [.bool neg] [.slice A n c] [.int .i64 e] 4 22 3
  obtain ⟨hC, hb1⟩ := box_1 (((w.alloc (.cells #[.bool neg] 4)).alloc (.cells #[.slice A n c] 22)).alloc (.cells #[.int .i64 e] 3)) [.bool false, .slice none 0 0, .int .i64 0] 24
  have esz : (((w.alloc (.cells #[.bool neg] 4)).alloc (.cells #[.slice A n c] 22)).alloc (.cells #[.int .i64 e] 3)).heap.size = w.heap.size + 1 + 1 + 1 := by simp
  have h1' := h1.keep hb1
  have h2' := h2.keep hb1
  have h3' := h3.keep hb1
  have hb := below_then hb0 hb1
  rw [esz] at hC
  have hr0 := hr.below hb
  have HT := hide (hT.below hb)
  clear h1 h2 h3 hb0 hb1 hT esz
  go_enter Tryd.func72, Tryd.ntmps72
  go_upto_region 1 with fail
  generalize (((w.alloc (.cells #[.bool neg] 4)).alloc (.cells #[.slice A n c] 22)).alloc (.cells #[.int .i64 e] 3)).alloc (.cells #[.bool false, .slice none 0 0, .int .i64 0] 24) = W at *
  go_wp2_with fail
  refine (face_any 108 _ (fitS neg (val BB xs) e) _ (enters Tryd.func108 (by kernel_rfl) rfl) (fun W' hW => fit1_any _ _ _ neg A n c xs e W' ((h1'.keep hW).cell 0 rfl) ((h2'.keep hW).cell 0 rfl) ((h3'.keep hW).cell 0 rfl) (hr0.below hW) hl hC0 hn he1 he2 (HT.out.below hW))).mono ?_
  rintro z w2 ⟨hb2, v, rfl, hv⟩
  obtain ⟨A', n', c', rfl, hv1, hv2, hv3⟩ := hv
  have hC2 : SomeDy w2 (w.heap.size + 1 + 1 + 1) 24 := ⟨_, _, _, _, _, hC.keep hb2⟩
  have f0 := (hC.keep hb2).frozen 0
  have f1 := (hC.keep hb2).frozen 1
  have f2 := (hC.keep hb2).frozen 2
  have d0 := (hC.keep hb2).cell 0 rfl
  have d1 := (hC.keep hb2).cell 1 rfl
  have d2 := (hC.keep hb2).cell 2 rfl
  obtain ⟨R, hR⟩ : ∃ R, R = (fitS neg (val BB xs) e) := ⟨_, rfl⟩
  rw [← hR] at hv1 hv2 hv3 ⊢
  have HRR := hide hR
  clear hR
  obtain ⟨q0, q1, q2, HF⟩ := face_store hC2 hv1 (below_then hb hb2) (show w.heap.size ≤ w.heap.size + 1 + 1 + 1 by omega)
  clear hC hC2 hb hb2 hv1 hr0 HT h1' h2' h3'
  go_wp2
  exact bodyPost_ret (v := .tuple #[.agg #[.bool R.1.neg, .slice A' n' c', .int .i64 R.1.e], .int .i64 R.2]) (by simp [results, Tryd.results72, go_sem, q0, q1, q2]) rfl (by rw [← HRR.out]; exact ⟨HF.out.2, _, rfl, _, _, _, rfl, HF.out.1, hv2, hv3⟩)


set_option maxRecDepth 100000 in
set_option maxHeartbeats 4000000 in
theorem normF_any (neg : Bool) (A : Option Addr) (n c : Nat) (xs : List Nat) (e : Int) (w : World) (hr : RdN .u64 w A n c xs) (hl : Lim BB xs) (he1 : -9223372036854775808 ≤ e) (he2 : e ≤ 9223372036854775807) (hT : TabAt w) :
    Calls Tryd.prog 15 #[.bool neg, .slice A n c, .int .i64 e] w (FacePost w (normS neg xs e)) := by
  have hmf := make_func
  obtain ⟨h1, h2, h3, hb0⟩ := box_3 w [.bool neg] [.slice A n c] [.int .i64 e] 4 22 3
  obtain ⟨hC, hb1⟩ := box_1 (((w.alloc (.cells #[.bool neg] 4)).alloc (.cells #[.slice A n c] 22)).alloc (.cells #[.int .i64 e] 3)) [.bool false, .slice none 0 0, .int .i64 0] 24
  have esz : (((w.alloc (.cells #[.bool neg] 4)).alloc (.cells #[.slice A n c] 22)).alloc (.cells #[.int .i64 e] 3)).heap.size = w.heap.size + 1 + 1 + 1 := by simp
  have h1' := h1.keep hb1
  have h2' := h2.keep hb1
  have h3' := h3.keep hb1
  have hb := below_then hb0 hb1
  rw [esz] at hC
  have hr0 := hr.below hb
  have HT := hide (hT.below hb)
  clear h1 h2 h3 hb0 hb1 hT esz
  go_enter Tryd.func15, Tryd.ntmps15
  go_upto_region 1 with fail
  generalize (((w.alloc (.cells #[.bool neg] 4)).alloc (.cells #[.slice A n c] 22)).alloc (.cells #[.int .i64 e] 3)).alloc (.cells #[.bool false, .slice none 0 0, .int .i64 0] 24) = W at *
  go_wp2_with fail
  refine (face_any 64 _ (normS neg xs e) _ (enters Tryd.func64 (by kernel_rfl) rfl) (fun W' hW => norm1_any _ _ _ neg A n c xs e W' ((h1'.keep hW).cell 0 rfl) ((h2'.keep hW).cell 0 rfl) ((h3'.keep hW).cell 0 rfl) (hr0.below hW) hl he1 he2 (HT.out.below hW))).mono ?_
  rintro z w2 ⟨hb2, v, rfl, hv⟩
  obtain ⟨A', n', c', rfl, hv1, hv2, hv3⟩ := hv
  have hC2 : SomeDy w2 (w.heap.size + 1 + 1 + 1) 24 := ⟨_, _, _, _, _, hC.keep hb2⟩
  have f0 := (hC.keep hb2).frozen 0
  have f1 := (hC.keep hb2).frozen 1
  have f2 := (hC.keep hb2).frozen 2
  have d0 := (hC.keep hb2).cell 0 rfl
  have d1 := (hC.keep hb2).cell 1 rfl
  have d2 := (hC.keep hb2).cell 2 rfl
  obtain ⟨R, hR⟩ : ∃ R, R = (normS neg xs e) := ⟨_, rfl⟩
  rw [← hR] at hv1 hv2 hv3 ⊢
  have HRR := hide hR
  clear hR
  obtain ⟨q0, q1, q2, HF⟩ := face_store hC2 hv1 (below_then hb hb2) (show w.heap.size ≤ w.heap.size + 1 + 1 + 1 by omega)
  clear hC hC2 hb hb2 hv1 hr0 HT h1' h2' h3'
  go_wp2
  exact bodyPost_ret (v := .tuple #[.agg #[.bool R.1.neg, .slice A' n' c', .int .i64 R.1.e], .int .i64 R.2]) (by simp [results, Tryd.results15, go_sem, q0, q1, q2]) rfl (by rw [← HRR.out]; exact ⟨HF.out.2, _, rfl, _, _, _, rfl, HF.out.1, hv2, hv3⟩)

end Go.Proofs.YtaifjldpjkabjaaDoor
