/- Contracts of package dyad, part N: Of; what sums, products, shifts return, as numbers behind letters. -/
import Derived.Test.YtaifjldpjkabjaaDoorDyM
namespace Go.Proofs.YtaifjldpjkabjaaDoor
open Go.RowKit Pl

/-- A Dyad and its mark, as a face returns them. -/
def DyTup (w : World) (e : Ending) (r : Dy × Int) : Prop := ∃ (d : Dy) (x : Int) (A : Option Addr) (n c : Nat), Hid ((d, x) = r) ∧ e = .returned (.tuple #[.agg #[.bool d.neg, .slice A n c, .int .i64 d.e], .int .i64 x]) ∧ RdD w (.agg #[.bool d.neg, .slice A n c, .int .i64 d.e]) d
theorem FacePost.tup {w w' : World} {r : Dy × Int} {e : Ending} (h : FacePost w r e w') : DyTup w' e r ∧ Below w.heap.size w w' := by
  obtain ⟨hb, v, he, hv⟩ := h
  obtain ⟨A, n, c, hv0, hv1⟩ := hv
  exact ⟨⟨r.1, r.2, A, n, c, rfl, by rw [he, hv0], A, n, c, rfl, hv1⟩, hb⟩
/-- A Dyad, as a function returns it. -/
def DyRet (w : World) (e : Ending) (d : Dy) : Prop := ∃ (A : Option Addr) (n c : Nat), e = .returned (.agg #[.bool d.neg, .slice A n c, .int .i64 d.e]) ∧ RdD w (.agg #[.bool d.neg, .slice A n c, .int .i64 d.e]) d
theorem DyRet.of {w : World} {e : Ending} {d : Dy} (h : ∃ z, e = .returned z ∧ RdD w z d) : DyRet w e d := by
  obtain ⟨z, he, A, n, c, rfl, hr⟩ := h
  exact ⟨A, n, c, he, A, n, c, rfl, hr⟩
section
variable (u v : Value) (a b : Dy) (w : World) (h : RdD w u a) (k : RdD w v b) (hT : TabAt w)
include h k hT in
theorem addT : Calls Tryd.prog 25 #[u, v] w fun e w' => DyTup w' e (twoS a b (sumS a b)) ∧ Below w.heap.size w w' := (addD_any u v a b w h k hT).mono fun _ _ h => h.tup
include h k hT in
theorem subT : Calls Tryd.prog 27 #[u, v] w fun e w' => DyTup w' e (twoS a b (subS a b)) ∧ Below w.heap.size w w' := (subD_any u v a b w h k hT).mono fun _ _ h => h.tup
include h k hT in
theorem mulT : Calls Tryd.prog 29 #[u, v] w fun e w' => DyTup w' e (twoS a b (mulS a b)) ∧ Below w.heap.size w w' := (mulD_any u v a b w h k hT).mono fun _ _ h => h.tup
include h hT in
theorem shiftT (j : Int) : Calls Tryd.prog 23 #[u, .int .i64 j] w fun e w' => DyTup w' e (shiftS a j) ∧ Below w.heap.size w w' := (shift_any u a j w h hT).mono fun _ _ h => h.tup
include h in
theorem negT (hn : a.m.length ≤ 1000000) : Calls Tryd.prog 37 #[u] w fun e w' => DyRet w' e (negS a) ∧ Below w.heap.size w w' := (negD_any u a w h hn).mono fun _ _ ⟨h, hb⟩ => ⟨.of h, hb⟩
end

theorem u64_pos {N : Nat} (h : N < BB) : IntKind.u64.wrap (N : Int) = (N : Int) := IntWalk.u64_in _ (by unfold BB at h; omega)
theorem u64_neg {N : Nat} (h0 : 0 < N) (h : N < BB) : IntKind.u64.wrap (-IntKind.u64.wrap (-(N : Int))) = (N : Int) := by
  unfold BB at h
  rw [IntKind.wrap_u64, IntKind.wrap_u64]
  omega

/-- dyad.Of. -/
def ofS (n e : Int) : Dy × Int := fitS (decide (n < 0)) n.natAbs e

set_option maxRecDepth 100000 in
set_option maxHeartbeats 4000000 in
theorem ofT (j e : Int) (w : World) (hj1 : -9223372036854775808 ≤ j) (hj2 : j ≤ 9223372036854775807) (he1 : -9223372036854775808 ≤ e) (he2 : e ≤ 9223372036854775807) (hT : TabAt w) :
    Calls Tryd.prog 21 #[.int .i64 j, .int .i64 e] w fun x w' => DyTup w' x (ofS j e) ∧ Below w.heap.size w w' := by
  obtain ⟨N, hN⟩ : ∃ N, N = j.natAbs := ⟨_, rfl⟩
  have hNB : N < BB := by unfold BB; omega
  have HO : Hid (ofS j e = fitS (decide (j < 0)) N e) := by unfold Hid ofS; rw [hN]
  obtain ⟨hC, hb0⟩ := box_1 w [.bool false, .slice none 0 0, .int .i64 0] 24
  have HT := hide (hT.below hb0)
  clear hT
  have main : ∀ (sg : Bool) (W1 W2 : World), Box W1 w.heap.size [.bool false, .slice none 0 0, .int .i64 0] 24 → Below w.heap.size w W1 → TabAt W1 → Box W2 W1.heap.size [.int .u64 (N : Int)] 38 → Below W1.heap.size W1 W2 →
      Calls Tryd.prog 73 #[.slice (some ⟨W1.heap.size, 0, none⟩) 1 1] W2 fun x w' => (∃ z, x = .returned z ∧ R64 w' z N) ∧ Below W2.heap.size W2 w' := by
    intro sg W1 W2 _ _ _ hD _
    have h1 := norm_any (some ⟨W1.heap.size, 0, none⟩) 1 1 [N] W2 ⟨rfl, Nat.le_refl _, by unfold maxLen; omega, fun _ => ⟨_, 0, rfl, hD.lt, fun k hk => by
      obtain rfl : k = 0 := by omega
      exact hD.cell 0 rfl⟩⟩ (Lim.cons hNB Lim.nil) (by omega)
    rw [show val BB [N] = N by simp [val]] at h1
    exact h1.mono fun x w' ⟨z, he, hz, hb⟩ => ⟨⟨z, he, hz⟩, hb⟩
  have HM := hide main
  clear main
  have fitV2 : ∀ (sg : Bool) (z : Value) (W : World), R64 W z N → TabAt W → Calls Tryd.prog 72 #[.bool sg, z, .int .i64 e] W (FacePost W (fitS sg N e)) := by
    intro sg z W hz hT
    obtain ⟨A, n, c, rfl, hr, hn⟩ := hz.limb
    have h1 := fitF_any sg A n c _ e W hr (limbs_lim BB_gt1 N) (limbs_can BB_gt1 N) (by
      have := (limbs_len_le BB_gt1 (n := N) (k := 1)).2 (by rw [Nat.pow_one]; exact hNB)
      omega) he1 he2 hT
    rw [limbs_val BB_gt1] at h1
    exact h1
  have HF := hide fitV2
  clear fitV2
  by_cases hs : j < 0
  · have d1 : decide (j < 0) = true := decide_eq_true hs
    have hw : IntKind.u64.wrap (-IntKind.u64.wrap j) = (N : Int) := by
      have := u64_neg (show 0 < N by omega) hNB
      rwa [show -(N : Int) = j by omega] at this
    rw [d1] at HO
    clear hs hN
    go_enter Tryd.func21, Tryd.ntmps21
    go_upto_region 4 with fail
    generalize w.alloc (.cells #[.bool false, .slice none 0 0, .int .i64 0] 24) = W1 at *
    obtain ⟨hD, hb1⟩ := box_1 W1 [.int .u64 (N : Int)] 38
    have hC1 := hC.keep hb1
    have HT1 := hide (HT.out.below hb1)
    have HN := hide (HM.out true W1 _ hC hb0 HT.out hD hb1)
    have hb01 := below_then hb0 hb1
    go_wp2_with fail
    generalize W1.alloc (.cells #[.int .u64 (N : Int)] 38) = W2 at *
    refine HN.out.mono ?_
    rintro x w3 ⟨⟨z, rfl, hz⟩, hb3⟩
    go_wp2_with fail
    refine (HF.out true z _ hz (HT1.out.below hb3)).mono ?_
    rintro x w4 ⟨hb4, v, rfl, hv⟩
    obtain ⟨A', n', c', rfl, hv1, hv2, hv3⟩ := hv
    have hC4 := (hC1.keep hb3).keep hb4
    have f0 := hC4.frozen 0
    have f1 := hC4.frozen 1
    have f2 := hC4.frozen 2
    have d0 := hC4.cell 0 rfl
    have d1 := hC4.cell 1 rfl
    have d2 := hC4.cell 2 rfl
    obtain ⟨R, hR⟩ : ∃ R, R = fitS true N e := ⟨_, rfl⟩
    rw [← hR] at hv1 hv2 hv3 ⊢
    have HRR := hide hR
    clear hR
    obtain ⟨q0, q1, q2, HF2⟩ := face_store ⟨_, _, _, _, _, hC4⟩ hv1 (below_then (below_then hb01 hb3) hb4) (Nat.le_refl _)
    clear hC hC1 hC4 hb0 hb1 hb01 hb3 hb4 hv1 hz hD HM HN HF HT HT1 hw
    go_wp2
    exact bodyPost_ret (v := .tuple #[.agg #[.bool R.1.neg, .slice A' n' c', .int .i64 R.1.e], .int .i64 R.2]) (by simp [results, Tryd.results21, go_sem, q0, q1, q2]) rfl ⟨⟨R.1, R.2, A', n', c', by rw [HO.out, ← HRR.out]; exact hide rfl, rfl, _, _, _, rfl, HF2.out.1, hv2, hv3⟩, HF2.out.2⟩
  · have d1 : decide (j < 0) = false := decide_eq_false hs
    have hw : IntKind.u64.wrap j = (N : Int) := by
      rw [show j = (N : Int) by omega]; exact u64_pos hNB
    rw [d1] at HO
    clear hs hN
    go_enter Tryd.func21, Tryd.ntmps21
    go_upto_region 4 with fail
    generalize w.alloc (.cells #[.bool false, .slice none 0 0, .int .i64 0] 24) = W1 at *
    obtain ⟨hD, hb1⟩ := box_1 W1 [.int .u64 (N : Int)] 38
    have hC1 := hC.keep hb1
    have HT1 := hide (HT.out.below hb1)
    have HN := hide (HM.out false W1 _ hC hb0 HT.out hD hb1)
    have hb01 := below_then hb0 hb1
    go_wp2_with fail
    generalize W1.alloc (.cells #[.int .u64 (N : Int)] 38) = W2 at *
    refine HN.out.mono ?_
    rintro x w3 ⟨⟨z, rfl, hz⟩, hb3⟩
    go_wp2_with fail
    refine (HF.out false z _ hz (HT1.out.below hb3)).mono ?_
    rintro x w4 ⟨hb4, v, rfl, hv⟩
    obtain ⟨A', n', c', rfl, hv1, hv2, hv3⟩ := hv
    have hC4 := (hC1.keep hb3).keep hb4
    have f0 := hC4.frozen 0
    have f1 := hC4.frozen 1
    have f2 := hC4.frozen 2
    have d0 := hC4.cell 0 rfl
    have d1 := hC4.cell 1 rfl
    have d2 := hC4.cell 2 rfl
    obtain ⟨R, hR⟩ : ∃ R, R = fitS false N e := ⟨_, rfl⟩
    rw [← hR] at hv1 hv2 hv3 ⊢
    have HRR := hide hR
    clear hR
    obtain ⟨q0, q1, q2, HF2⟩ := face_store ⟨_, _, _, _, _, hC4⟩ hv1 (below_then (below_then hb01 hb3) hb4) (Nat.le_refl _)
    clear hC hC1 hC4 hb0 hb1 hb01 hb3 hb4 hv1 hz hD HM HN HF HT HT1 hw
    go_wp2
    exact bodyPost_ret (v := .tuple #[.agg #[.bool R.1.neg, .slice A' n' c', .int .i64 R.1.e], .int .i64 R.2]) (by simp [results, Tryd.results21, go_sem, q0, q1, q2]) rfl ⟨⟨R.1, R.2, A', n', c', by rw [HO.out, ← HRR.out]; exact hide rfl, rfl, _, _, _, rfl, HF2.out.1, hv2, hv3⟩, HF2.out.2⟩
end Go.Proofs.YtaifjldpjkabjaaDoor
