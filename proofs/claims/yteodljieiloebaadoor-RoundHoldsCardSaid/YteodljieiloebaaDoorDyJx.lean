/- Contracts of package dyad, part J: the inner product. Contracts of package dyad, part K: the inner sum, the inner difference. Printed by wip/mk_DyK.py. Contracts of package dyad, part L: Fit, Norm, Of, two, Add, Sub, Mul. Printed by wip/mk_DyL.py. -/
import Derived.Test.YteodljieiloebaaDoorKitCx
import Derived.Deep.RegionHeld2
namespace Go.Proofs.YteodljieiloebaaDoor
open Go.RowKit Pl
attribute [local go_sem ↓] Go.wp_at_zero Go.wp_at_succ

/-- The product of two that may be. -/
def mulS (a b : Dy) : Dy × Int := fitS (a.neg != b.neg) (val BB a.m * val BB b.m) (a.e + b.e)
theorem mayD_rd {w : World} {A : Option Addr} {n c : Nat} {d : Dy} (h : RdN .u64 w A n c d.m) (hl : Lim BB d.m) (hm : mayD d = true) : R64 w (.slice A n c) (val BB d.m) :=
  ⟨A, n, c, rfl, by rw [limbs_of BB_gt1 hl (mayD_limbs hm).1 rfl]; exact h⟩
theorem blen_limb {xs : List Nat} (hl : Lim BB xs) : blen (val BB xs) ≤ 64 * xs.length := by
  rw [blen_le, ← pow_BB]
  exact val_lt hl
theorem mayD_blen {d : Dy} (hl : Lim BB d.m) (hm : mayD d = true) : blen (val BB d.m) ≤ 4096 := by
  exact Nat.le_trans (blen_limb hl) (by have := (mayD_limbs hm).2.1; omega)

set_option maxRecDepth 100000 in
set_option maxHeartbeats 4000000 in
theorem mul1_any (u v : Value) (a b : Dy) (w : World) (h : RdD w u a) (k : RdD w v b) (ha : mayD a = true) (hb : mayD b = true) (hT : TabAt w) :
    Calls Tryd.prog 82 #[u, v] w (FitPost w (mulS a b)) := by
  obtain ⟨A, n, c, rfl, hr, hl, he1, he2⟩ := h
  obtain ⟨B, m, d, rfl, kr, kl, ke1, ke2⟩ := k
  have ra := mayD_rd hr hl ha
  have rb := mayD_rd kr kl hb
  have hXb := mayD_blen hl ha
  have hYb := mayD_blen kl hb
  obtain ⟨_, _, ea1, ea2⟩ := mayD_limbs ha
  obtain ⟨_, _, eb1, eb2⟩ := mayD_limbs hb
  have HR : Hid (mulS a b = fitS (a.neg != b.neg) (val BB a.m * val BB b.m) (a.e + b.e)) := rfl
  obtain ⟨X, eX⟩ : ∃ X, X = val BB a.m := ⟨_, rfl⟩
  obtain ⟨Y, eY⟩ : ∃ Y, Y = val BB b.m := ⟨_, rfl⟩
  rw [← eX, ← eY] at HR
  rw [← eX] at ra hXb
  rw [← eY] at rb hYb
  obtain ⟨an, am, ae⟩ := a
  obtain ⟨bn, bm, be⟩ := b
  simp only at hr hl kr kl ea1 ea2 eb1 eb2 HR ⊢
  have hPb : Hid (blen (X * Y) ≤ 640000) := Nat.le_trans (blen_mul hXb hYb) (by omega)
  have hX3 : Hid (blen X ≤ 3000000) := by unfold Hid; omega
  have hY3 : Hid (blen Y ≤ 3000000) := by unfold Hid; omega
  obtain ⟨hA, hB, hC, hb0⟩ := box_3 w [.bool an, .slice A n c, .int .i64 ae] [.bool bn, .slice B m d, .int .i64 be] [.bool false, .slice none 0 0, .int .i64 0] 26 26 26
  have hH : Held w w.heap.size w.heap.size (w.heap.size + 1) (w.heap.size + 1 + 1) [.bool an, .slice A n c, .int .i64 ae] [.bool bn, .slice B m d, .int .i64 be] 26 [(.slice A n c, X), (.slice B m d, Y)] (((w.alloc (.cells #[.bool an, .slice A n c, .int .i64 ae] 26)).alloc (.cells #[.bool bn, .slice B m d, .int .i64 be] 26)).alloc (.cells #[.bool false, .slice none 0 0, .int .i64 0] 26)) :=
    ⟨hA, hB, ⟨_, _, _, _, _, hC⟩, hb0, fun p hp => by
      simp only [List.mem_cons, List.not_mem_nil, or_false] at hp
      rcases hp with rfl | rfl
      · exact ra.below hb0
      · exact rb.below hb0⟩
  obtain ⟨S0, eS0⟩ : ∃ S, S = Held w w.heap.size w.heap.size (w.heap.size + 1) (w.heap.size + 1 + 1) [.bool an, .slice A n c, .int .i64 ae] [.bool bn, .slice B m d, .int .i64 be] 26 [(.slice A n c, X), (.slice B m d, Y)] := ⟨_, rfl⟩
  rw [← eS0] at hH
  have hH : Kept S0 _ := hH
  have eS : Kept S0 = Held w w.heap.size w.heap.size (w.heap.size + 1) (w.heap.size + 1 + 1) [.bool an, .slice A n c, .int .i64 ae] [.bool bn, .slice B m d, .int .i64 be] 26 [(.slice A n c, X), (.slice B m d, Y)] := eS0
  have sD : ∀ w', Kept S0 w' → Kept S0 w'.drew := fun w' h => by rw [eS] at h ⊢; exact h.drew
  have sK : ∀ w' w'', Kept S0 w' → Below w'.heap.size w' w'' → Kept S0 w'' := fun w' w'' h hb => by rw [eS] at h ⊢; exact h.keep hb (h.size (Nat.le_refl _))
  have sS : ∀ w', Kept S0 w' → ∀ g A n c e, Kept S0 (((w'.setCell ⟨w.heap.size + 1 + 1, 0, none⟩ (.bool g)).setCell ⟨w.heap.size + 1 + 1, 1, none⟩ (.slice A n c)).setCell ⟨w.heap.size + 1 + 1, 2, none⟩ (.int .i64 e)) := fun w' h g A n c e => by
    rw [eS] at h ⊢; exact h.store (by omega) (by omega) (by omega) g A n c e
  obtain ⟨x0, x1, x2⟩ := box_cells (fun w' (h : Kept S0 w') => by rw [eS] at h; exact h.x)
  obtain ⟨y0, y1, y2⟩ := box_cells (fun w' (h : Kept S0 w') => by rw [eS] at h; exact h.y)
  obtain ⟨⟨c0, z0⟩, ⟨c1, z1⟩, ⟨c2, z2⟩, f0, f1, f2⟩ := some_cells (fun w' (h : Kept S0 w') => by rw [eS] at h; exact h.z)
  have SB := hide (fun w' (h : Kept S0 w') => show Below w.heap.size w w' by rw [eS] at h; exact h.b)
  have SZ := hide (fun w' (h : Kept S0 w') => show SomeDy w' (w.heap.size + 1 + 1) 26 by rw [eS] at h; exact h.z)
  have SX := hide (fun w' (h : Kept S0 w') => show R64 w' (.slice A n c) X by rw [eS] at h; exact h.r (_, _) (by simp))
  have SY := hide (fun w' (h : Kept S0 w') => show R64 w' (.slice B m d) Y by rw [eS] at h; exact h.r (_, _) (by simp))
  rw [HR.out]
  clear HR
  obtain ⟨sg, hsg⟩ : ∃ sg, sg = (an != bn) := ⟨_, rfl⟩
  rw [← hsg]
  have hsg2 : (!(an == bn)) = sg := hsg.symm
  clear hsg
  have HT := hide hT
  have hwr : IntKind.i64.wrap (ae + be) = ae + be := IntWalk.i64_in _ (by omega)
  clear eS eS0 hr kr ra rb hA hB hC hb0 eX eY hT hXb hYb hl kl
  go_enter Tryd.func82, Tryd.ntmps82
  go_upto_region 1 with fail
  generalize ((w.alloc (.cells #[.bool an, .slice A n c, .int .i64 ae] 26)).alloc (.cells #[.bool bn, .slice B m d, .int .i64 be] 26)).alloc (.cells #[.bool false, .slice none 0 0, .int .i64 0] 26) = W at *
  go_region_held2 (Kept S0) (first | exact sD _ (by assumption) | assumption | exact sK _ _ (by assumption) hbA | exact sK _ _ (by assumption) hbF | exact sS _ (by assumption) _ _ _ _ _)
    (first
      | (go_at_call 74; (with_reducible refine (timesI _ _ X Y _ (SX.out _ (by assumption)) (SY.out _ (by assumption)) hX3.out hY3.out).mono ?_); rintro z wA ⟨⟨p, rfl, hp⟩, hbA⟩)
      | (go_at_call 83; (with_reducible refine (fitV _ _ (X * Y) _ _ hp hPb.out (by omega) (by omega) (HT.out.below (SB.out _ (by assumption)))).mono ?_); rintro z wF ⟨hbF, hcase⟩; rcases hcase with ⟨h0, v, rfl, hv⟩ | ⟨h0, hz, rfl⟩; rotate_left; (exact ⟨rfl, SB.out _ (sK _ _ (by assumption) hbF), .inr ⟨h0, hz, rfl⟩⟩); obtain ⟨A', n', c', rfl, hv1, hv2, hv3⟩ := hv))
  all_goals
    have hKF := sK _ _ (sK _ _ (sD _ hH) hbA) hbF
    obtain ⟨g9, A9, n9, c9, e9, hz9⟩ := (SZ.out _ hKF).get
    obtain ⟨r, hr⟩ : ∃ r, r = fitS sg (X * Y) (ae + be) := ⟨_, rfl⟩
    rw [← hr] at h0 hv1 hv2 hv3 ⊢
    have hB9 := hz9.store3 (.bool r.1.neg) (.slice A' n' c') (.int .i64 r.1.e)
    have q0 := hB9.cell 0 rfl
    have q1 := hB9.cell 1 rfl
    have q2 := hB9.cell 2 rfl
    have HF := hide (And.intro (hv1.store3 hz9 (.bool r.1.neg) (.slice A' n' c') (.int .i64 r.1.e) (dy_no _ _ _ ⟨_, _, _, rfl⟩) (dy_no _ _ _ ⟨_, _, _, rfl⟩)) (SB.out _ (sS _ hKF r.1.neg A' n' c' r.1.e)))
    clear hB9 hz9 hv1 hKF sD sK sS x0 x1 x2 y0 y1 y2 z0 z1 z2 f0 f1 f2
    go_wp2
    exact bodyPost_ret (v := .agg #[.bool r.1.neg, .slice A' n' c', .int .i64 r.1.e]) (by simp [results, Tryd.results82, go_sem, q0, q1, q2]) rfl ⟨HF.out.2, .inl (by rw [← hr]; exact ⟨h0, _, rfl, _, _, _, rfl, HF.out.1, hv2, hv3⟩)⟩
end Go.Proofs.YteodljieiloebaaDoor
namespace Go.Proofs.YteodljieiloebaaDoor
open Go.RowKit Pl
attribute [local go_sem ↓] Go.wp_at_zero Go.wp_at_succ

end Go.Proofs.YteodljieiloebaaDoor
namespace Go.Proofs.YteodljieiloebaaDoor
open Go.RowKit Pl
attribute [local go_sem ↓] Go.wp_at_zero Go.wp_at_succ

/-- A face's answer, stored into a variable of the call's own. -/
theorem face_store {w0 w1 : World} {B g : Nat} {t : TypeId} {A : Option Addr} {n c : Nat} {d : Dy} (hC : SomeDy w1 g t) (hr : RdN .u64 w1 A n c d.m) (hb : Below B w0 w1) (hB : B ≤ g) :
    (((w1.setCell ⟨g, 0, none⟩ (.bool d.neg)).setCell ⟨g, 1, none⟩ (.slice A n c)).setCell ⟨g, 2, none⟩ (.int .i64 d.e)).cell? ⟨g, 0, none⟩ = some (.bool d.neg) ∧
    (((w1.setCell ⟨g, 0, none⟩ (.bool d.neg)).setCell ⟨g, 1, none⟩ (.slice A n c)).setCell ⟨g, 2, none⟩ (.int .i64 d.e)).cell? ⟨g, 1, none⟩ = some (.slice A n c) ∧
    (((w1.setCell ⟨g, 0, none⟩ (.bool d.neg)).setCell ⟨g, 1, none⟩ (.slice A n c)).setCell ⟨g, 2, none⟩ (.int .i64 d.e)).cell? ⟨g, 2, none⟩ = some (.int .i64 d.e) ∧
    Hid (RdN .u64 (((w1.setCell ⟨g, 0, none⟩ (.bool d.neg)).setCell ⟨g, 1, none⟩ (.slice A n c)).setCell ⟨g, 2, none⟩ (.int .i64 d.e)) A n c d.m ∧
      Below B w0 (((w1.setCell ⟨g, 0, none⟩ (.bool d.neg)).setCell ⟨g, 1, none⟩ (.slice A n c)).setCell ⟨g, 2, none⟩ (.int .i64 d.e))) := by
  obtain ⟨g9, A9, n9, c9, e9, hz⟩ := hC
  have h := hz.store3 (.bool d.neg) (.slice A n c) (.int .i64 d.e)
  exact ⟨h.cell 0 rfl, h.cell 1 rfl, h.cell 2 rfl, hr.store3 hz _ _ _ (dy_no _ _ _ ⟨_, _, _, rfl⟩) (dy_no _ _ _ ⟨_, _, _, rfl⟩), below_store3 hb hB _ _ _⟩
theorem SomeDy.keep {w w' : World} {b : Nat} {t : TypeId} (h : SomeDy w b t) (hb : Below w.heap.size w w') : SomeDy w' b t := by
  obtain ⟨g, A, n, c, e, hz⟩ := h; exact ⟨g, A, n, c, e, hz.keep hb⟩
theorem make_func : ∀ (fn : Fn) (first cap : Array Value) (w : World), (Instr.makeFunc fn first cap).run Tryd.prog w = .ok (.func fn first cap) w := fun _ _ _ _ => rfl


set_option maxRecDepth 100000 in
set_option maxHeartbeats 4000000 in
theorem fit1_any (g1 g2 g3 : Nat) (neg : Bool) (A : Option Addr) (n c : Nat) (xs : List Nat) (e : Int) (W : World) (h1 : W.cell? ⟨g1, 0, none⟩ = some (.bool neg)) (h2 : W.cell? ⟨g2, 0, none⟩ = some (.slice A n c)) (h3 : W.cell? ⟨g3, 0, none⟩ = some (.int .i64 e))
    (hr : RdN .u64 W A n c xs) (hl : Lim BB xs) (hC0 : Cnl xs) (hn : n ≤ 10000) (he1 : -9223372036854775808 ≤ e) (he2 : e ≤ 9223372036854775807) (hT : TabAt W) :
    Calls Tryd.prog 120 #[.pointer (some ⟨g1, 0, none⟩), .pointer (some ⟨g2, 0, none⟩), .pointer (some ⟨g3, 0, none⟩)] W (FitPost W (fitS neg (val BB xs) e)) := by
  obtain ⟨hC, hb0⟩ := box_1 W [.bool false, .slice none 0 0, .int .i64 0] 26
  have k1 := (hb0.cell (p := ⟨g1, 0, none⟩) (lt_of_cell h1)).trans h1
  have k2 := (hb0.cell (p := ⟨g2, 0, none⟩) (lt_of_cell h2)).trans h2
  have k3 := (hb0.cell (p := ⟨g3, 0, none⟩) (lt_of_cell h3)).trans h3
  have l1 := Nat.lt_of_lt_of_le (lt_of_cell h1) hb0.size
  have l2 := Nat.lt_of_lt_of_le (lt_of_cell h2) hb0.size
  have l3 := Nat.lt_of_lt_of_le (lt_of_cell h3) hb0.size
  have hr0 := hr.below hb0
  have HT := hide (hT.below hb0)
  clear h1 h2 h3 hT hr
  go_enter Tryd.func120, Tryd.ntmps120
  go_upto_region 1 with fail
  generalize W.alloc (.cells #[.bool false, .slice none 0 0, .int .i64 0] 26) = W1 at *
  go_wp2_with fail
  refine (fit_any _ _ _ _ _ _ _ hr0 hl hC0 hn he1 he2 HT.out).mono ?_
  rintro z w2 ⟨hb2, ⟨h0, v, rfl, hv⟩ | ⟨h0, hz, rfl⟩⟩
  · obtain ⟨A', n', c', rfl, hv1, hv2, hv3⟩ := hv
    have hC2 : SomeDy w2 W.heap.size 26 := ⟨_, _, _, _, _, hC.keep hb2⟩
    have f0 := (hC.keep hb2).frozen 0
    have f1 := (hC.keep hb2).frozen 1
    have f2 := (hC.keep hb2).frozen 2
    have d0 := (hC.keep hb2).cell 0 rfl
    have d1 := (hC.keep hb2).cell 1 rfl
    have d2 := (hC.keep hb2).cell 2 rfl
    obtain ⟨R, hR⟩ : ∃ R, R = fitS neg (val BB xs) e := ⟨_, rfl⟩
    rw [← hR] at h0 hv1 hv2 hv3 ⊢
    have HRR := hide hR
    clear hR
    obtain ⟨q0, q1, q2, HF⟩ := face_store hC2 hv1 (below_then hb0 hb2) (Nat.le_refl _)
    clear hC hC2 hb0 hb2 hv1 hr0 HT
    go_wp2
    exact bodyPost_ret (v := .agg #[.bool R.1.neg, .slice A' n' c', .int .i64 R.1.e]) (by simp [results, Tryd.results120, go_sem, q0, q1, q2]) rfl ⟨HF.out.2, .inl (by rw [← HRR.out]; exact ⟨h0, _, rfl, _, _, _, rfl, HF.out.1, hv2, hv3⟩)⟩
  · exact ⟨rfl, below_then hb0 hb2, .inr ⟨h0, hz, rfl⟩⟩

set_option maxRecDepth 100000 in
set_option maxHeartbeats 4000000 in
theorem fitF_any (neg : Bool) (A : Option Addr) (n c : Nat) (xs : List Nat) (e : Int) (w : World) (hr : RdN .u64 w A n c xs) (hl : Lim BB xs) (hC0 : Cnl xs) (hn : n ≤ 10000) (he1 : -9223372036854775808 ≤ e) (he2 : e ≤ 9223372036854775807) (hT : TabAt w) :
    Calls Tryd.prog 104 #[.bool neg, .slice A n c, .int .i64 e] w (FacePost w (fitS neg (val BB xs) e)) := by
  have hmf := make_func
  obtain ⟨h1, h2, h3, hb0⟩ := box_3 w [.bool neg] [.slice A n c] [.int .i64 e] 4 24 3
  obtain ⟨hC, hb1⟩ := box_1 (((w.alloc (.cells #[.bool neg] 4)).alloc (.cells #[.slice A n c] 24)).alloc (.cells #[.int .i64 e] 3)) [.bool false, .slice none 0 0, .int .i64 0] 26
  have esz : (((w.alloc (.cells #[.bool neg] 4)).alloc (.cells #[.slice A n c] 24)).alloc (.cells #[.int .i64 e] 3)).heap.size = w.heap.size + 1 + 1 + 1 := by simp
  have h1' := h1.keep hb1
  have h2' := h2.keep hb1
  have h3' := h3.keep hb1
  have hb := below_then hb0 hb1
  rw [esz] at hC
  have hr0 := hr.below hb
  have HT := hide (hT.below hb)
  clear h1 h2 h3 hb0 hb1 hT esz
  go_enter Tryd.func104, Tryd.ntmps104
  go_upto_region 1 with fail
  generalize (((w.alloc (.cells #[.bool neg] 4)).alloc (.cells #[.slice A n c] 24)).alloc (.cells #[.int .i64 e] 3)).alloc (.cells #[.bool false, .slice none 0 0, .int .i64 0] 26) = W at *
  go_wp2_with fail
  refine (face_any 120 _ (fitS neg (val BB xs) e) _ (enters Tryd.func120 (by kernel_rfl) rfl) (fun W' hW => fit1_any _ _ _ neg A n c xs e W' ((h1'.keep hW).cell 0 rfl) ((h2'.keep hW).cell 0 rfl) ((h3'.keep hW).cell 0 rfl) (hr0.below hW) hl hC0 hn he1 he2 (HT.out.below hW))).mono ?_
  rintro z w2 ⟨hb2, v, rfl, hv⟩
  obtain ⟨A', n', c', rfl, hv1, hv2, hv3⟩ := hv
  have hC2 : SomeDy w2 (w.heap.size + 1 + 1 + 1) 26 := ⟨_, _, _, _, _, hC.keep hb2⟩
  have f0 := (hC.keep hb2).frozen 0
  have f1 := (hC.keep hb2).frozen 1
  have f2 := (hC.keep hb2).frozen 2
  have d0 := (hC.keep hb2).cell 0 rfl
  have d1 := (hC.keep hb2).cell 1 rfl
  have d2 := (hC.keep hb2).cell 2 rfl
  obtain ⟨R, hR⟩ : ∃ R, R = (fitS neg (val BB xs) e) := ⟨_, rfl⟩
  rw [← hR] at hv1 hv2 hv3 ⊢
  have HRR := hide hR
  clear hR
  obtain ⟨q0, q1, q2, HF⟩ := face_store hC2 hv1 (below_then hb hb2) (show w.heap.size ≤ w.heap.size + 1 + 1 + 1 by omega)
  clear hC hC2 hb hb2 hv1 hr0 HT h1' h2' h3'
  go_wp2
  exact bodyPost_ret (v := .tuple #[.agg #[.bool R.1.neg, .slice A' n' c', .int .i64 R.1.e], .int .i64 R.2]) (by simp [results, Tryd.results104, go_sem, q0, q1, q2]) rfl (by rw [← HRR.out]; exact ⟨HF.out.2, _, rfl, _, _, _, rfl, HF.out.1, hv2, hv3⟩)


end Go.Proofs.YteodljieiloebaaDoor
