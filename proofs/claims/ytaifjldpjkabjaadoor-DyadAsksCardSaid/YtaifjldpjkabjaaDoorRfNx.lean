/- Contracts of the document's answer sluicewayref1, part N: MulDyad, AddDyad, SubDyad. Printed by wip/mk_RfN.py. -/
import Derived.Test.YtaifjldpjkabjaaDoorRfMx
import Derived.Test.YtaifjldpjkabjaaDoorRfJx
namespace Go.Proofs.YtaifjldpjkabjaaDoor
open Go.RowKit Pl
attribute [local go_sem ↓] Go.wp_at_zero Go.wp_at_succ

theorem mulR_S {a b : Dy} (ha : mayD a = true) (hb : mayD b = true) : normR (a.neg != b.neg) (val BB a.m * val BB b.m) (a.e + b.e) = mulS a b := by
  unfold mulS
  refine normR_S (.inl ?_)
  by_cases a0 : a.m.length = 0
  · rw [List.length_eq_zero_iff.1 a0]; simp [tz, tzF]
  · by_cases b0 : b.m.length = 0
    · rw [List.length_eq_zero_iff.1 b0]; simp [tz, tzF]
    · rw [tz_odd (by rw [Nat.mul_mod, (mayD_val ha a0).1, (mayD_val hb b0).1])]; omega
theorem r16_of {w : World} {A : Option Addr} {n c X : Nat} (h : RdN .u32 w A n c (limbs DD X)) : R16 w (.slice A n c) X := ⟨_, _, _, rfl, h⟩
theorem DyTup.val {w' : World} {e : Ending} {r s : Dy × Int} (h : DyTup w' e r) (hr : r = s) : DyTup w' e s := by rw [← hr]; exact h
/-- Boxes of two Dyads and of the result, as such a function begins. -/
theorem open3 (w : World) (a b : Dy) (A : Option Addr) (n c : Nat) (B : Option Addr) (m d : Nat) :
    Box (((w.alloc (.cells #[.bool a.neg, .slice A n c, .int .i64 a.e] 24)).alloc (.cells #[.bool b.neg, .slice B m d, .int .i64 b.e] 24)).alloc (.cells #[.bool false, .slice none 0 0, .int .i64 0] 24)) w.heap.size [.bool a.neg, .slice A n c, .int .i64 a.e] 24 ∧ Box (((w.alloc (.cells #[.bool a.neg, .slice A n c, .int .i64 a.e] 24)).alloc (.cells #[.bool b.neg, .slice B m d, .int .i64 b.e] 24)).alloc (.cells #[.bool false, .slice none 0 0, .int .i64 0] 24)) (w.heap.size + 1) [.bool b.neg, .slice B m d, .int .i64 b.e] 24 ∧ Box (((w.alloc (.cells #[.bool a.neg, .slice A n c, .int .i64 a.e] 24)).alloc (.cells #[.bool b.neg, .slice B m d, .int .i64 b.e] 24)).alloc (.cells #[.bool false, .slice none 0 0, .int .i64 0] 24)) (w.heap.size + 1 + 1) [.bool false, .slice none 0 0, .int .i64 0] 24 ∧ Below w.heap.size w (((w.alloc (.cells #[.bool a.neg, .slice A n c, .int .i64 a.e] 24)).alloc (.cells #[.bool b.neg, .slice B m d, .int .i64 b.e] 24)).alloc (.cells #[.bool false, .slice none 0 0, .int .i64 0] 24)) := box_3 w [.bool a.neg, .slice A n c, .int .i64 a.e] [.bool b.neg, .slice B m d, .int .i64 b.e] [.bool false, .slice none 0 0, .int .i64 0] 24 24 24

set_option maxRecDepth 100000 in
set_option maxHeartbeats 8000000 in
theorem rmulD_any (u v : Value) (a b : Dy) (w : World) (h : RdD w u a) (k : RdD w v b) :
    Calls Tryd.prog 30 #[u, v] w fun x w' => DyTup w' x (twoS a b (mulS a b)) ∧ Below w.heap.size w w' := by
  have r_a := h
  have r_b := k
  have la := hide h.lim
  have lb := hide k.lim
  obtain ⟨A, n, c, rfl, hr, _, ae1, ae2⟩ := h
  obtain ⟨B, m, d, rfl, kr, _, be1, be2⟩ := k
  obtain ⟨hA, hB, hC, hb0⟩ := open3 w a b A n c B m d
  have r_a0 := r_a.below hb0
  have r_b0 := r_b.below hb0
  obtain ⟨R, hR⟩ : ∃ R, R = twoS a b (mulS a b) := ⟨_, rfl⟩
  rw [← hR]
  have HR := hide hR
  clear hR
  cases ha : mayD a
  · have HL : Hid (R = (Dy.zero, 1)) := by unfold Hid; rw [HR.out]; unfold twoS; rw [ha]; rfl
    have a0 := hA.cell 0 rfl
    have a1 := hA.cell 1 rfl
    have a2 := hA.cell 2 rfl
    go_enter Tryd.func30, Tryd.ntmps30
    go_upto_region 1 with fail
    generalize ((w.alloc (.cells #[.bool a.neg, .slice A n c, .int .i64 a.e] 24)).alloc (.cells #[.bool b.neg, .slice B m d, .int .i64 b.e] 24)).alloc (.cells #[.bool false, .slice none 0 0, .int .i64 0] 24) = W at *
    go_wp2_with fail
    refine (rmayD_any _ _ _ r_a0).mono ?_
    rw [ha]
    rintro z w2 ⟨rfl, hb2⟩
    have hC9 := hC.keep hb2
    have hb9 := below_then hb0 hb2
    clear a0 a1 a2 hA hB hC hb0 hb2 r_a0 r_b0
    have f0 := hC9.frozen 0
    have f1 := hC9.frozen 1
    have f2 := hC9.frozen 2
    have d0 := hC9.cell 0 rfl
    have d1 := hC9.cell 1 rfl
    have d2 := hC9.cell 2 rfl
    obtain ⟨q0, q1, q2, HF⟩ := face_store (d := Dy.zero) ⟨_, _, _, _, _, hC9⟩ (RdN.nil _ _) hb9 (show w.heap.size ≤ w.heap.size + 1 + 1 by omega)
    simp only [Dy.zero] at q0 q1 q2 HF
    go_wp2
    exact bodyPost_ret (v := .tuple #[.agg #[.bool false, .slice none 0 0, .int .i64 0], .int .i64 1]) (by simp [results, Tryd.results30, go_sem, q0, q1, q2]) rfl ⟨⟨Dy.zero, 1, none, 0, 0, by rw [HL.out]; exact hide rfl, rfl, RdD.zero _⟩, HF.out.2⟩
  cases hb : mayD b
  · have HL : Hid (R = (Dy.zero, 1)) := by unfold Hid; rw [HR.out]; unfold twoS; rw [ha, hb]; rfl
    have a0 := hA.cell 0 rfl
    have a1 := hA.cell 1 rfl
    have a2 := hA.cell 2 rfl
    go_enter Tryd.func30, Tryd.ntmps30
    go_upto_region 1 with fail
    generalize ((w.alloc (.cells #[.bool a.neg, .slice A n c, .int .i64 a.e] 24)).alloc (.cells #[.bool b.neg, .slice B m d, .int .i64 b.e] 24)).alloc (.cells #[.bool false, .slice none 0 0, .int .i64 0] 24) = W at *
    go_wp2_with fail
    refine (rmayD_any _ _ _ r_a0).mono ?_
    rw [ha]
    rintro z w2 ⟨rfl, hb2⟩
    have hB2 := hB.keep hb2
    have r_b2 := r_b0.below hb2
    clear a0 a1 a2
    have b0 := hB2.cell 0 rfl
    have b1 := hB2.cell 1 rfl
    have b2 := hB2.cell 2 rfl
    go_wp2_with fail
    refine (rmayD_any _ _ _ r_b2).mono ?_
    rw [hb]
    rintro z w3 ⟨rfl, hb3⟩
    have hC9 := (hC.keep hb2).keep hb3
    have hb9 := below_then (below_then hb0 hb2) hb3
    clear b0 b1 b2 hA hB hC hb0 hb2 hb3 r_a0 r_b0 hB2 r_b2
    have f0 := hC9.frozen 0
    have f1 := hC9.frozen 1
    have f2 := hC9.frozen 2
    have d0 := hC9.cell 0 rfl
    have d1 := hC9.cell 1 rfl
    have d2 := hC9.cell 2 rfl
    obtain ⟨q0, q1, q2, HF⟩ := face_store (d := Dy.zero) ⟨_, _, _, _, _, hC9⟩ (RdN.nil _ _) hb9 (show w.heap.size ≤ w.heap.size + 1 + 1 by omega)
    simp only [Dy.zero] at q0 q1 q2 HF
    go_wp2
    exact bodyPost_ret (v := .tuple #[.agg #[.bool false, .slice none 0 0, .int .i64 0], .int .i64 1]) (by simp [results, Tryd.results30, go_sem, q0, q1, q2]) rfl ⟨⟨Dy.zero, 1, none, 0, 0, by rw [HL.out]; exact hide rfl, rfl, RdD.zero _⟩, HF.out.2⟩
  obtain ⟨_, a64, ee1, ee2⟩ := mayD_limbs ha
  obtain ⟨_, b64, ff1, ff2⟩ := mayD_limbs hb
  have ra := hide (mayD_rd hr la.out ha)
  have rb := hide (mayD_rd kr lb.out hb)
  have hXb := mayD_blen la.out ha
  have hYb := mayD_blen lb.out hb
  have HL0 : R = normR (a.neg != b.neg) (val BB a.m * val BB b.m) (a.e + b.e) := by rw [HR.out, twoS_of ha hb, mulR_S ha hb]
  obtain ⟨X, eX⟩ : ∃ X, X = val BB a.m := ⟨_, rfl⟩
  obtain ⟨Y, eY⟩ : ∃ Y, Y = val BB b.m := ⟨_, rfl⟩
  rw [← eX, ← eY] at HL0
  rw [← eX] at ra hXb
  rw [← eY] at rb hYb
  obtain ⟨sg, hsg⟩ : ∃ sg, sg = (a.neg != b.neg) := ⟨_, rfl⟩
  rw [← hsg] at HL0
  have hsg2 : (!(a.neg == b.neg)) = sg := hsg.symm
  have HL := hide HL0
  clear HL0 eX eY hsg hr kr
  have hX6 : Hid (blen X ≤ 64 * 100000) := by unfold Hid; omega
  have hY6 : Hid (blen Y ≤ 64 * 100000) := by unfold Hid; omega
  have hX5 : Hid (blen X ≤ 1500000) := by unfold Hid; omega
  have hY5 : Hid (blen Y ≤ 1500000) := by unfold Hid; omega
  have hP6 : Hid (blen (X * Y) ≤ 1000000) := Nat.le_trans (blen_mul hXb hYb) (by omega)
  have hw9 : IntKind.i64.wrap (a.e + b.e) = a.e + b.e := IntWalk.i64_in _ (by omega)
  have a0 := hA.cell 0 rfl
  have a1 := hA.cell 1 rfl
  have a2 := hA.cell 2 rfl
  go_enter Tryd.func30, Tryd.ntmps30
  go_upto_region 1 with fail
  generalize ((w.alloc (.cells #[.bool a.neg, .slice A n c, .int .i64 a.e] 24)).alloc (.cells #[.bool b.neg, .slice B m d, .int .i64 b.e] 24)).alloc (.cells #[.bool false, .slice none 0 0, .int .i64 0] 24) = W at *
  go_wp2_with fail
  refine (rmayD_any _ _ _ r_a0).mono ?_
  rw [ha]
  rintro z w2 ⟨rfl, hb2⟩
  have hB2 := hB.keep hb2
  have r_b2 := r_b0.below hb2
  clear a0 a1 a2
  have b0 := hB2.cell 0 rfl
  have b1 := hB2.cell 1 rfl
  have b2 := hB2.cell 2 rfl
  go_wp2_with fail
  refine (rmayD_any _ _ _ r_b2).mono ?_
  rw [hb]
  rintro z w3 ⟨rfl, hb3⟩
  have hb23 := below_then hb2 hb3
  have hA3 := hA.keep hb23
  have hB3 := hB.keep hb23
  have hC3 := hC.keep hb23
  have hb03 := below_then hb0 hb23
  have r_a3 := r_a0.below hb23
  have r_b3 := r_b0.below hb23
  clear b0 b1 b2 hA hB hC hb0 hb2 hb3 hb23 r_a0 r_b0 hB2 r_b2
  generalize a.neg = p at *
  generalize b.neg = q at *
  have hsg3 := hide hsg2
  clear hsg2
  obtain ⟨S0, hH, sD, sK, sS, ⟨⟨c0, z0⟩, ⟨c1, z1⟩, ⟨c2, z2⟩, k0, k1, k2⟩, SB0, SZ0, SX0⟩ := heldb_open [(w.heap.size, [.bool p, .slice A n c, .int .i64 a.e], 24), (w.heap.size + 1, [.bool q, .slice B m d, .int .i64 b.e], 24)] (fun p hp => by
      simp only [List.mem_cons, List.not_mem_nil, or_false] at hp
      rcases hp with rfl | rfl
      · exact hA3
      · exact hB3) ⟨_, _, _, _, _, hC3⟩ hb03 (fun p hp => by
      simp only [List.mem_cons, List.not_mem_nil, or_false] at hp
      rcases hp with rfl | rfl <;> simp only <;> omega) (show w.heap.size ≤ w.heap.size + 1 + 1 by omega)
  obtain ⟨x0, x1, x2⟩ := box_cells (fun w' (h : Kept S0 w') => SX0 w' h (w.heap.size, [.bool p, .slice A n c, .int .i64 a.e], 24) (by simp))
  obtain ⟨y0, y1, y2⟩ := box_cells (fun w' (h : Kept S0 w') => SX0 w' h (w.heap.size + 1, [.bool q, .slice B m d, .int .i64 b.e], 24) (by simp))
  have SB := hide SB0
  have SZ := hide SZ0
  clear SB0 SZ0 SX0
  clear hA3 hB3 hC3 hb03 r_a3 r_b3
  go_upto_region 3 with fail
  rcases p with _ | _ <;> rcases q with _ | _
  all_goals
    first
      | (obtain rfl : sg = false := hsg3.out.symm)
      | (obtain rfl : sg = true := hsg3.out.symm)
    clear hsg3
    go_region_held3 (Kept S0) (first | exact sD _ (by assumption) | assumption | exact sK _ _ (by assumption) hbA | exact sK _ _ (by assumption) hbB | exact sK _ _ (by assumption) hbM | exact sK _ _ (by assumption) hbN | exact sS _ (by assumption) _ _ _ _ _)
      (first
        | (go_at_call 19; (with_reducible refine (fromX (.slice A n c) X _ (ra.out.below (SB.out _ (by assumption))) hX6.out).mono ?_); rintro z wA ⟨⟨pa, rfl, hpa⟩, hbA⟩)
        | (go_at_call 19; (with_reducible refine (fromX (.slice B m d) Y _ (rb.out.below (SB.out _ (by assumption))) hY6.out).mono ?_); rintro z wB ⟨⟨pb, rfl, hpb⟩, hbB⟩)
        | (go_at_call 85; (with_reducible refine (rmul_any _ _ X Y _ (by first | exact hpa | exact hpa.below hbB) (by first | exact hpb | exact hpb.below hbA) hX5.out hY5.out).mono ?_); rintro z wM ⟨pm, rfl, ⟨Am, nm, cm, rfl, hrm⟩, hbM⟩)
        | (go_at_call 18; (with_reducible refine (rnorm_any _ (.slice Am nm cm) (X * Y) (a.e + b.e) _ (r16_of hrm) hP6.out (by omega) (by omega)).mono ?_); rintro z wN ⟨⟨d9, x9, A9, n9, c9, h9, rfl, r9⟩, hbN⟩))
    all_goals
      have hKF : Kept S0 wN := by first | exact sK _ _ (sK _ _ (sK _ _ (sK _ _ (sD _ hH) hbA) hbB) hbM) hbN | exact sK _ _ (sK _ _ (sK _ _ (sK _ _ (sD _ hH) hbB) hbA) hbM) hbN
      obtain ⟨A8, n8, c8, e8, hr8, l8, e81, e82⟩ := r9
      have e8' := congrArg (fun v => match v with | .agg vs => vs.toList | _ => []) e8
      simp only [List.cons.injEq, Value.slice.injEq, and_true, true_and] at e8'
      obtain ⟨rfl, rfl, rfl⟩ := e8'
      obtain ⟨q0, q1, q2, HF⟩ := face_store (SZ.out _ hKF) hr8 (SB.out _ hKF) (show w.heap.size ≤ w.heap.size + 1 + 1 by omega)
      clear hr8 hKF sD sK sS x0 x1 x2 y0 y1 y2 z0 z1 z2 k0 k1 k2 e8
      go_wp2
      exact bodyPost_ret (v := .tuple #[.agg #[.bool d9.neg, .slice A9 n9 c9, .int .i64 d9.e], .int .i64 x9]) (by simp [results, Tryd.results30, go_sem, q0, q1, q2]) rfl ⟨⟨d9, x9, A9, n9, c9, by rw [HL.out]; exact h9, rfl, _, _, _, rfl, HF.out.1, l8, e81, e82⟩, HF.out.2⟩

end Go.Proofs.YtaifjldpjkabjaaDoor
