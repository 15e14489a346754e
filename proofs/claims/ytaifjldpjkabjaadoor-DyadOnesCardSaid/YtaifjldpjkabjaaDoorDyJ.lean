/- Contracts of package dyad, part J: the inner product. -/
import Derived.Test.YtaifjldpjkabjaaDoorKitC
import Derived.Deep.RegionHeld2
namespace Go.Proofs.YtaifjldpjkabjaaDoor
open Go.RowKit Pl
attribute [local go_sem ↓] Go.wp_at_zero Go.wp_at_succ

/-- The product of two that may be. -/
def mulS (a b : Dy) : Dy × Int := fitS (a.neg != b.neg) (val BB a.m * val BB b.m) (a.e + b.e)
theorem mayD_rd {w : World} {A : Option Addr} {n c : Nat} {d : Dy} (h : RdN .u64 w A n c d.m) (hl : Lim BB d.m) (hm : mayD d = true) : R64 w (.slice A n c) (val BB d.m) :=
  ⟨A, n, c, rfl, by rw [limbs_of BB_gt1 hl (mayD_limbs hm).1 rfl]; exact h⟩
theorem blen_limb {xs : List Nat} (hl : Lim BB xs) : blen (val BB xs) ≤ 64 * xs.length := by
  rw [blen_le, ← pow_BB]
  exact val_lt hl
theorem mayD_blen {d : Dy} (hl : Lim BB d.m) (hm : mayD d = true) : blen (val BB d.m) ≤ 4096 := by
  exact Nat.le_trans (blen_limb hl) (by have := (mayD_limbs hm).2.1; omega)

set_option maxRecDepth 100000 in
set_option maxHeartbeats 4000000 in
theorem mul1_any (u v : Value) (a b : Dy) (w : World) (h : RdD w u a) (k : RdD w v b) (ha : mayD a = true) (hb : mayD b = true) (hT : TabAt w) :
    Calls Tryd.prog 83 #[u, v] w (FitPost w (mulS a b)) := by
  obtain ⟨A, n, c, rfl, hr, hl, he1, he2⟩ := h
  obtain ⟨B, m, d, rfl, kr, kl, ke1, ke2⟩ := k
  have ra := mayD_rd hr hl ha
  have rb := mayD_rd kr kl hb
  have hXb := mayD_blen hl ha
  have hYb := mayD_blen kl hb
  obtain ⟨_, _, ea1, ea2⟩ := mayD_limbs ha
  obtain ⟨_, _, eb1, eb2⟩ := mayD_limbs hb
  have HR : Hid (mulS a b = fitS (a.neg != b.neg) (val BB a.m * val BB b.m) (a.e + b.e)) := rfl
  obtain ⟨X, eX⟩ : ∃ X, X = val BB a.m := ⟨_, rfl⟩
  obtain ⟨Y, eY⟩ : ∃ Y, Y = val BB b.m := ⟨_, rfl⟩
  rw [← eX, ← eY] at HR
  rw [← eX] at ra hXb
  rw [← eY] at rb hYb
  obtain ⟨an, am, ae⟩ := a
  obtain ⟨bn, bm, be⟩ := b
  simp only at hr hl kr kl ea1 ea2 eb1 eb2 HR ⊢
  have hPb : Hid (blen (X * Y) ≤ 640000) := Nat.le_trans (blen_mul hXb hYb) (by omega)
  have hX3 : Hid (blen X ≤ 3000000) := by unfold Hid; omega
  have hY3 : Hid (blen Y ≤ 3000000) := by unfold Hid; omega
  obtain ⟨hA, hB, hC, hb0⟩ := box_3 w [.bool an, .slice A n c, .int .i64 ae] [.bool bn, .slice B m d, .int .i64 be] [.bool false, .slice none 0 0, .int .i64 0] 24 24 24
  have hH : Held w w.heap.size w.heap.size (w.heap.size + 1) (w.heap.size + 1 + 1) [.bool an, .slice A n c, .int .i64 ae] [.bool bn, .slice B m d, .int .i64 be] 24 [(.slice A n c, X), (.slice B m d, Y)] (((w.alloc (.cells #[.bool an, .slice A n c, .int .i64 ae] 24)).alloc (.cells #[.bool bn, .slice B m d, .int .i64 be] 24)).alloc (.cells #[.bool false, .slice none 0 0, .int .i64 0] 24)) :=
    ⟨hA, hB, ⟨_, _, _, _, _, hC⟩, hb0, fun p hp => by
      simp only [List.mem_cons, List.not_mem_nil, or_false] at hp
      rcases hp with rfl | rfl
      · exact ra.below hb0
      · exact rb.below hb0⟩
  obtain ⟨S0, eS0⟩ : ∃ S, S = Held w w.heap.size w.heap.size (w.heap.size + 1) (w.heap.size + 1 + 1) [.bool an, .slice A n c, .int .i64 ae] [.bool bn, .slice B m d, .int .i64 be] 24 [(.slice A n c, X), (.slice B m d, Y)] := ⟨_, rfl⟩
  rw [← eS0] at hH
  have hH : Kept S0 _ := hH
  have eS : Kept S0 = Held w w.heap.size w.heap.size (w.heap.size + 1) (w.heap.size + 1 + 1) [.bool an, .slice A n c, .int .i64 ae] [.bool bn, .slice B m d, .int .i64 be] 24 [(.slice A n c, X), (.slice B m d, Y)] := eS0
  have sD : ∀ w', Kept S0 w' → Kept S0 w'.drew := fun w' h => by rw [eS] at h ⊢; exact h.drew
  have sK : ∀ w' w'', Kept S0 w' → Below w'.heap.size w' w'' → Kept S0 w'' := fun w' w'' h hb => by rw [eS] at h ⊢; exact h.keep hb (h.size (Nat.le_refl _))
  have sS : ∀ w', Kept S0 w' → ∀ g A n c e, Kept S0 (((w'.setCell ⟨w.heap.size + 1 + 1, 0, none⟩ (.bool g)).setCell ⟨w.heap.size + 1 + 1, 1, none⟩ (.slice A n c)).setCell ⟨w.heap.size + 1 + 1, 2, none⟩ (.int .i64 e)) := fun w' h g A n c e => by
    rw [eS] at h ⊢; exact h.store (by omega) (by omega) (by omega) g A n c e
  obtain ⟨x0, x1, x2⟩ := box_cells (fun w' (h : Kept S0 w') => by rw [eS] at h; exact h.x)
  obtain ⟨y0, y1, y2⟩ := box_cells (fun w' (h : Kept S0 w') => by rw [eS] at h; exact h.y)
  obtain ⟨⟨c0, z0⟩, ⟨c1, z1⟩, ⟨c2, z2⟩, f0, f1, f2⟩ := some_cells (fun w' (h : Kept S0 w') => by rw [eS] at h; exact h.z)
  have SB := hide (fun w' (h : Kept S0 w') => show Below w.heap.size w w' by rw [eS] at h; exact h.b)
  have SZ := hide (fun w' (h : Kept S0 w') => show SomeDy w' (w.heap.size + 1 + 1) 24 by rw [eS] at h; exact h.z)
  have SX := hide (fun w' (h : Kept S0 w') => show R64 w' (.slice A n c) X by rw [eS] at h; exact h.r (_, _) (by simp))
  have SY := hide (fun w' (h : Kept S0 w') => show R64 w' (.slice B m d) Y by rw [eS] at h; exact h.r (_, _) (by simp))
  rw [HR.out]
  clear HR
  obtain ⟨sg, hsg⟩ : ∃ sg, sg = (an != bn) := ⟨_, rfl⟩
  rw [← hsg]
  have hsg2 : (!(an == bn)) = sg := hsg.symm
  clear hsg
  have HT := hide hT
  have hwr : IntKind.i64.wrap (ae + be) = ae + be := IntWalk.i64_in _ (by omega)
  clear eS eS0 hr kr ra rb hA hB hC hb0 eX eY hT hXb hYb hl kl
  go_enter Tryd.func83, Tryd.ntmps83
  go_upto_region 1 with fail
  generalize ((w.alloc (.cells #[.bool an, .slice A n c, .int .i64 ae] 24)).alloc (.cells #[.bool bn, .slice B m d, .int .i64 be] 24)).alloc (.cells #[.bool false, .slice none 0 0, .int .i64 0] 24) = W at *
  go_region_held2 (Kept S0) (first | exact sD _ (by assumption) | assumption | exact sK _ _ (by assumption) hbA | exact sK _ _ (by assumption) hbF | exact sS _ (by assumption) _ _ _ _ _)
    (first
      | (go_at_call 84; (with_reducible refine (timesI _ _ X Y _ (SX.out _ (by assumption)) (SY.out _ (by assumption)) hX3.out hY3.out).mono ?_); rintro z wA ⟨⟨p, rfl, hp⟩, hbA⟩)
      | (go_at_call 67; (with_reducible refine (fitV _ _ (X * Y) _ _ hp hPb.out (by omega) (by omega) (HT.out.below (SB.out _ (by assumption)))).mono ?_); rintro z wF ⟨hbF, hcase⟩; rcases hcase with ⟨h0, v, rfl, hv⟩ | ⟨h0, hz, rfl⟩; rotate_left; (exact ⟨rfl, SB.out _ (sK _ _ (by assumption) hbF), .inr ⟨h0, hz, rfl⟩⟩); obtain ⟨A', n', c', rfl, hv1, hv2, hv3⟩ := hv))
  all_goals
    have hKF := sK _ _ (sK _ _ (sD _ hH) hbA) hbF
    obtain ⟨g9, A9, n9, c9, e9, hz9⟩ := (SZ.out _ hKF).get
    obtain ⟨r, hr⟩ : ∃ r, r = fitS sg (X * Y) (ae + be) := ⟨_, rfl⟩
    rw [← hr] at h0 hv1 hv2 hv3 ⊢
    have hB9 := hz9.store3 (.bool r.1.neg) (.slice A' n' c') (.int .i64 r.1.e)
    have q0 := hB9.cell 0 rfl
    have q1 := hB9.cell 1 rfl
    have q2 := hB9.cell 2 rfl
    have HF := hide (And.intro (hv1.store3 hz9 (.bool r.1.neg) (.slice A' n' c') (.int .i64 r.1.e) (dy_no _ _ _ ⟨_, _, _, rfl⟩) (dy_no _ _ _ ⟨_, _, _, rfl⟩)) (SB.out _ (sS _ hKF r.1.neg A' n' c' r.1.e)))
    clear hB9 hz9 hv1 hKF sD sK sS x0 x1 x2 y0 y1 y2 z0 z1 z2 f0 f1 f2
    go_wp2
    exact bodyPost_ret (v := .agg #[.bool r.1.neg, .slice A' n' c', .int .i64 r.1.e]) (by simp [results, Tryd.results83, go_sem, q0, q1, q2]) rfl ⟨HF.out.2, .inl (by rw [← hr]; exact ⟨h0, _, rfl, _, _, _, rfl, HF.out.1, hv2, hv3⟩)⟩
end Go.Proofs.YtaifjldpjkabjaaDoor
