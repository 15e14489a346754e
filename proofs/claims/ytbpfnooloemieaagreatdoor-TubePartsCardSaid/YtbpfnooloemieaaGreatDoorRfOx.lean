/- Contracts of the document's answer sluicewayref1, part O: AddDyad. Printed by wip/mk_RfO.py. -/
import Derived.Test.YtbpfnooloemieaaGreatDoorRfNx
import Derived.Test.YtbpfnooloemieaaGreatDoorRfMx
namespace Go.Proofs.YtbpfnooloemieaaGreatDoor
open Go.RowKit Pl
attribute [local go_sem ↓] Go.wp_at_zero Go.wp_at_succ

theorem addR_far {a b : Dy} (ha : mayD a = true) (la : Lim BB a.m) (hb : mayD b = true) (lb : Lim BB b.m) (a0 : a.m.length ≠ 0) (b0 : b.m.length ≠ 0)
    (h : 4166 < max ((blen (val BB a.m) : Int) + a.e) ((blen (val BB b.m) : Int) + b.e) - min a.e b.e) : sumS a b = (Dy.zero, 2) := by
  have h1 := mayD_blen la ha
  have h2 := mayD_blen lb hb
  unfold sumS
  rw [if_neg a0, if_neg b0]
  split
  · unfold sumO; rw [if_neg (by omega)]
  · unfold sumO; rw [if_neg (by omega)]
theorem addR_Z {a b : Dy} (ha : mayD a = true) (la : Lim BB a.m) (hb : mayD b = true) (lb : Lim BB b.m) {e : Int} (h1 : e ≤ a.e) (h2 : e ≤ b.e) (h3 : -1048576 ≤ e) {P Q : Nat} (hP : P = val BB a.m * 2 ^ (a.e - e).toNat) (hQ : Q = val BB b.m * 2 ^ (b.e - e).toNat) :
    (a.neg = b.neg → normR a.neg (P + Q) e = sumS a b) ∧ (a.neg ≠ b.neg → Q ≤ P → normR a.neg (P - Q) e = sumS a b) ∧ (a.neg ≠ b.neg → P ≤ Q → normR b.neg (Q - P) e = sumS a b) := by
  have ea : ZD a = sgI a.neg * ((P * 2 ^ (e + (SS : Int)).toNat : Nat) : Int) := by unfold ZD; rw [hP, pow_scale _ h1 (by omega)]
  have eb : ZD b = sgI b.neg * ((Q * 2 ^ (e + (SS : Int)).toNat : Nat) : Int) := by unfold ZD; rw [hQ, pow_scale _ h2 (by omega)]
  have hZ := fun neg n => fitS_Z (neg := neg) (n := n) (e := e) (by omega)
  have hN := fun neg n => normR_S (neg := neg) (X := n) (e := e) (.inr (by omega))
  rw [sumS_Z ha la hb lb, ea, eb]
  clear hP hQ ea eb
  generalize 2 ^ (e + (SS : Int)).toNat = T at *
  refine ⟨fun g => ?_, fun g hle => ?_, fun g hle => ?_⟩
  · rw [hN, hZ, ← g, Nat.add_mul, ← Int.mul_add, ← Int.natCast_add]
  · have h5 : Q * T ≤ P * T := Nat.mul_le_mul_right _ hle
    rw [hN, hZ, Nat.sub_mul, Int.ofNat_sub h5]
    congr 1
    rcases sgI_cases a.neg with ⟨g1, g2⟩ | ⟨g1, g2⟩ <;> rcases sgI_cases b.neg with ⟨g3, g4⟩ | ⟨g3, g4⟩ <;> rw [g1, g3] <;> first | exact absurd (g2.trans g4.symm) g | (generalize ((Q * T : Nat) : Int) = T1; generalize ((P * T : Nat) : Int) = T2; omega)
  · have h5 : P * T ≤ Q * T := Nat.mul_le_mul_right _ hle
    rw [hN, hZ, Nat.sub_mul, Int.ofNat_sub h5]
    congr 1
    rcases sgI_cases a.neg with ⟨g1, g2⟩ | ⟨g1, g2⟩ <;> rcases sgI_cases b.neg with ⟨g3, g4⟩ | ⟨g3, g4⟩ <;> rw [g1, g3] <;> first | exact absurd (g2.trans g4.symm) g | (generalize ((Q * T : Nat) : Int) = T1; generalize ((P * T : Nat) : Int) = T2; omega)
theorem blen_shl_le (X k : Nat) : blen (X * 2 ^ k) ≤ blen X + k := by
  by_cases h : X = 0
  · subst h; simp [blen_zero]
  · exact Nat.le_of_eq (blen_mul_pow h k)
theorem signD_nil {d : Dy} (h : d.m.length = 0) : signD d = 0 := by unfold signD; simp [h]
theorem signD_not {d : Dy} (h : mayD d = true) (h0 : d.m.length ≠ 0) : (signD d == 0) = false := by
  unfold signD
  rw [h]
  cases d.neg <;> simp [h0]
/-- What stands in memory behind region 7. -/
structure Made (W wx : World) (a b : Dy) (X Y b3 g6 g7 : Nat) (A1 : Option Addr) (n1 c1 : Nat) (A2 : Option Addr) (n2 c2 : Nat) : Prop where
  p : Box wx g6 [.bool a.neg, .slice A1 n1 c1, .int .i64 a.e] 92
  q : Box wx g7 [.bool b.neg, .slice A2 n2 c2, .int .i64 b.e] 92
  z : Box wx b3 [.bool false, .slice none 0 0, .int .i64 0] 30
  b : Below W.heap.size W wx
  ra : RdN .u32 wx A1 n1 c1 (limbs DD X)
  rb : RdN .u32 wx A2 n2 c2 (limbs DD Y)
theorem Made.keep {W wx w' : World} {a b : Dy} {X Y b3 g6 g7 : Nat} {A1 : Option Addr} {n1 c1 : Nat} {A2 : Option Addr} {n2 c2 : Nat} (h : Made W wx a b X Y b3 g6 g7 A1 n1 c1 A2 n2 c2) (hb : Below wx.heap.size wx w') : Made W w' a b X Y b3 g6 g7 A1 n1 c1 A2 n2 c2 :=
  ⟨h.p.keep hb, h.q.keep hb, h.z.keep hb, below_then h.b hb, h.ra.below hb, h.rb.below hb⟩
theorem made_of {W V : World} {a b : Dy} {X Y b3 g6 g7 : Nat} {A1 : Option Addr} {n1 c1 : Nat} {A2 : Option Addr} {n2 c2 : Nat} (h : TwoBox V W.heap.size g6 g7 92) (hC : Box V b3 [.bool false, .slice none 0 0, .int .i64 0] 30) (hb : Below W.heap.size W V)
    (ra : RdN .u32 V A1 n1 c1 (limbs DD X)) (rb : RdN .u32 V A2 n2 c2 (limbs DD Y)) :
    Made W ((((((V.setCell ⟨g6, 0, none⟩ (.bool a.neg)).setCell ⟨g6, 1, none⟩ (.slice A1 n1 c1)).setCell ⟨g6, 2, none⟩ (.int .i64 a.e)).setCell ⟨g7, 0, none⟩ (.bool b.neg)).setCell ⟨g7, 1, none⟩ (.slice A2 n2 c2)).setCell ⟨g7, 2, none⟩ (.int .i64 b.e)) a b X Y b3 g6 g7 A1 n1 c1 A2 n2 c2 := by
  have k1 : b3 ≠ g6 := fun e => absurd (hC.type (e ▸ h.a)) (by decide)
  have k2 : b3 ≠ g7 := fun e => absurd (hC.type (e ▸ h.b)) (by decide)
  have z6 := h.b.far3 (g := g6) h.ne.symm (.bool a.neg) (.slice A1 n1 c1) (.int .i64 a.e)
  exact ⟨((h.a.store3 _ _ _).far3 h.ne _ _ _), z6.store3 _ _ _, (hC.far3 k1 _ _ _).far3 k2 _ _ _, below_store3 (below_store3 hb h.la _ _ _) h.lb _ _ _,
    (ra.store3 h.a _ _ _ (by simp) (by simp)).store3 z6 _ _ _ (by simp) (by simp), (rb.store3 h.a _ _ _ (by simp) (by simp)).store3 z6 _ _ _ (by simp) (by simp)⟩

set_option maxRecDepth 100000 in
set_option maxHeartbeats 8000000 in
theorem raddD_any (u v : Value) (a b : Dy) (w : World) (h : RdD w u a) (k : RdD w v b) :
    Calls Tryz.prog 98 #[u, v] w fun x w' => DyTup w' x (twoS a b (sumS a b)) ∧ Below w.heap.size w w' := by
  have r_a := h
  have r_b := k
  have la := hide h.lim
  have lb := hide k.lim
  obtain ⟨A, n, c, rfl, hr, _, ae1, ae2⟩ := h
  obtain ⟨B, m, d, rfl, kr, _, be1, be2⟩ := k
  obtain ⟨hA, hB, hC, hb0⟩ := open3 w a b A n c B m d
  have r_a0 := r_a.below hb0
  have r_b0 := r_b.below hb0
  obtain ⟨R, hR⟩ : ∃ R, R = twoS a b (sumS a b) := ⟨_, rfl⟩
  rw [← hR]
  have HR := hide hR
  clear hR
  cases ha : mayD a
  · have HL : Hid (R = (Dy.zero, 1)) := by unfold Hid; rw [HR.out]; unfold twoS; rw [ha]; rfl
    have a0 := hA.cell 0 rfl
    have a1 := hA.cell 1 rfl
    have a2 := hA.cell 2 rfl
    go_enter Tryz.func98, Tryz.ntmps98
    go_upto_region 1 with fail
    generalize ((w.alloc (.cells #[.bool a.neg, .slice A n c, .int .i64 a.e] 30)).alloc (.cells #[.bool b.neg, .slice B m d, .int .i64 b.e] 30)).alloc (.cells #[.bool false, .slice none 0 0, .int .i64 0] 30) = W at *
    go_wp2_with fail
    refine (rmayD_any _ _ _ r_a0).mono ?_
    rw [ha]
    rintro z w2 ⟨rfl, hb2⟩
    have hC9 := hC.keep hb2
    have hb9 := below_then hb0 hb2
    clear a0 a1 a2 hA hB hC hb0 hb2 r_a0 r_b0
    have f0 := hC9.frozen 0
    have f1 := hC9.frozen 1
    have f2 := hC9.frozen 2
    have d0 := hC9.cell 0 rfl
    have d1 := hC9.cell 1 rfl
    have d2 := hC9.cell 2 rfl
    obtain ⟨q0, q1, q2, HF⟩ := face_store (d := Dy.zero) ⟨_, _, _, _, _, hC9⟩ (RdN.nil _ _) hb9 (show w.heap.size ≤ w.heap.size + 1 + 1 by omega)
    simp only [Dy.zero] at q0 q1 q2 HF
    go_wp2
    exact bodyPost_ret (v := .tuple #[.agg #[.bool false, .slice none 0 0, .int .i64 0], .int .i64 1]) (by simp [results, Tryz.results98, go_sem, q0, q1, q2]) rfl ⟨⟨Dy.zero, 1, none, 0, 0, by rw [HL.out]; exact hide rfl, rfl, RdD.zero _⟩, HF.out.2⟩
  cases hb : mayD b
  · have HL : Hid (R = (Dy.zero, 1)) := by unfold Hid; rw [HR.out]; unfold twoS; rw [ha, hb]; rfl
    have a0 := hA.cell 0 rfl
    have a1 := hA.cell 1 rfl
    have a2 := hA.cell 2 rfl
    go_enter Tryz.func98, Tryz.ntmps98
    go_upto_region 1 with fail
    generalize ((w.alloc (.cells #[.bool a.neg, .slice A n c, .int .i64 a.e] 30)).alloc (.cells #[.bool b.neg, .slice B m d, .int .i64 b.e] 30)).alloc (.cells #[.bool false, .slice none 0 0, .int .i64 0] 30) = W at *
    go_wp2_with fail
    refine (rmayD_any _ _ _ r_a0).mono ?_
    rw [ha]
    rintro z w2 ⟨rfl, hb2⟩
    have hB2 := hB.keep hb2
    have r_b2 := r_b0.below hb2
    clear a0 a1 a2
    have b0 := hB2.cell 0 rfl
    have b1 := hB2.cell 1 rfl
    have b2 := hB2.cell 2 rfl
    go_wp2_with fail
    refine (rmayD_any _ _ _ r_b2).mono ?_
    rw [hb]
    rintro z w3 ⟨rfl, hb3⟩
    have hC9 := (hC.keep hb2).keep hb3
    have hb9 := below_then (below_then hb0 hb2) hb3
    clear b0 b1 b2 hA hB hC hb0 hb2 hb3 r_a0 r_b0 hB2 r_b2
    have f0 := hC9.frozen 0
    have f1 := hC9.frozen 1
    have f2 := hC9.frozen 2
    have d0 := hC9.cell 0 rfl
    have d1 := hC9.cell 1 rfl
    have d2 := hC9.cell 2 rfl
    obtain ⟨q0, q1, q2, HF⟩ := face_store (d := Dy.zero) ⟨_, _, _, _, _, hC9⟩ (RdN.nil _ _) hb9 (show w.heap.size ≤ w.heap.size + 1 + 1 by omega)
    simp only [Dy.zero] at q0 q1 q2 HF
    go_wp2
    exact bodyPost_ret (v := .tuple #[.agg #[.bool false, .slice none 0 0, .int .i64 0], .int .i64 1]) (by simp [results, Tryz.results98, go_sem, q0, q1, q2]) rfl ⟨⟨Dy.zero, 1, none, 0, 0, by rw [HL.out]; exact hide rfl, rfl, RdD.zero _⟩, HF.out.2⟩
  have hda := hide (mayD_limbs ha)
  have hdb := hide (mayD_limbs hb)
  have hsum : R = sumS a b := by rw [HR.out, twoS_of ha hb]
  by_cases a0 : a.m.length = 0
  · have HL : Hid (R = (b, 0)) := by unfold Hid; rw [hsum]; unfold sumS; rw [if_pos a0]
    have sa := signD_nil a0
    clear hsum a0
    have a0 := hA.cell 0 rfl
    have a1 := hA.cell 1 rfl
    have a2 := hA.cell 2 rfl
    go_enter Tryz.func98, Tryz.ntmps98
    go_upto_region 1 with fail
    generalize ((w.alloc (.cells #[.bool a.neg, .slice A n c, .int .i64 a.e] 30)).alloc (.cells #[.bool b.neg, .slice B m d, .int .i64 b.e] 30)).alloc (.cells #[.bool false, .slice none 0 0, .int .i64 0] 30) = W at *
    go_wp2_with fail
    refine (rmayD_any _ _ _ r_a0).mono ?_
    rw [ha]
    rintro z w2 ⟨rfl, hb2⟩
    have hB2 := hB.keep hb2
    have r_b2 := r_b0.below hb2
    clear a0 a1 a2
    have b0 := hB2.cell 0 rfl
    have b1 := hB2.cell 1 rfl
    have b2 := hB2.cell 2 rfl
    go_wp2_with fail
    refine (rmayD_any _ _ _ r_b2).mono ?_
    rw [hb]
    rintro z w3 ⟨rfl, hb3⟩
    have hb23 := below_then hb2 hb3
    have hA3 := hA.keep hb23
    have hB3 := hB.keep hb23
    have hC3 := hC.keep hb23
    have hb03 := below_then hb0 hb23
    have r_a3 := r_a0.below hb23
    have r_b3 := r_b0.below hb23
    clear b0 b1 b2 hA hB hC hb0 hb2 hb3 hb23 r_a0 r_b0 hB2 r_b2
    have a0 := hA3.cell 0 rfl
    have a1 := hA3.cell 1 rfl
    have a2 := hA3.cell 2 rfl
    go_wp2_with fail
    refine (rsignD_any _ _ _ r_a3).mono ?_
    rw [sa]
    rintro z w4 ⟨rfl, hb4⟩
    clear a0 a1 a2
    have hA4 := hA3.keep hb4
    have hB4 := hB3.keep hb4
    have hC4 := hC3.keep hb4
    have hb04 := below_then hb03 hb4
    have r_a4 := r_a3.below hb4
    have r_b4 := r_b3.below hb4
    clear hA3 hB3 hC3 hb03 hb4 r_a3 r_b3
    have a0 := hB4.cell 0 rfl
    have a1 := hB4.cell 1 rfl
    have a2 := hB4.cell 2 rfl
    have f0 := hC4.frozen 0
    have f1 := hC4.frozen 1
    have f2 := hC4.frozen 2
    have d0 := hC4.cell 0 rfl
    have d1 := hC4.cell 1 rfl
    have d2 := hC4.cell 2 rfl
    obtain ⟨_, _, _, e8, hr8, _, _, _⟩ := r_b4
    have e8' := congrArg (fun v => match v with | .agg vs => vs.toList | _ => []) e8
    simp only [List.cons.injEq, Value.slice.injEq, and_true, true_and] at e8'
    obtain ⟨rfl, rfl, rfl⟩ := e8'
    obtain ⟨q0, q1, q2, HF⟩ := face_store (d := b) ⟨_, _, _, _, _, hC4⟩ hr8 hb04 (show w.heap.size ≤ w.heap.size + 1 + 1 by omega)
    clear e8 hr8
    go_wp2
    exact bodyPost_ret (v := .tuple #[.agg #[.bool b.neg, .slice B m d, .int .i64 b.e], .int .i64 0]) (by simp [results, Tryz.results98, go_sem, q0, q1, q2]) rfl ⟨⟨b, 0, B, m, d, by rw [HL.out]; exact hide rfl, rfl, _, _, _, rfl, HF.out.1, lb.out, be1, be2⟩, HF.out.2⟩
  by_cases b0 : b.m.length = 0
  · have HL : Hid (R = (a, 0)) := by unfold Hid; rw [hsum]; unfold sumS; rw [if_neg a0, if_pos b0]
    have sa := signD_not ha a0
    have sb := signD_nil b0
    clear hsum a0 b0
    have a0 := hA.cell 0 rfl
    have a1 := hA.cell 1 rfl
    have a2 := hA.cell 2 rfl
    go_enter Tryz.func98, Tryz.ntmps98
    go_upto_region 1 with fail
    generalize ((w.alloc (.cells #[.bool a.neg, .slice A n c, .int .i64 a.e] 30)).alloc (.cells #[.bool b.neg, .slice B m d, .int .i64 b.e] 30)).alloc (.cells #[.bool false, .slice none 0 0, .int .i64 0] 30) = W at *
    go_wp2_with fail
    refine (rmayD_any _ _ _ r_a0).mono ?_
    rw [ha]
    rintro z w2 ⟨rfl, hb2⟩
    have hB2 := hB.keep hb2
    have r_b2 := r_b0.below hb2
    clear a0 a1 a2
    have b0 := hB2.cell 0 rfl
    have b1 := hB2.cell 1 rfl
    have b2 := hB2.cell 2 rfl
    go_wp2_with fail
    refine (rmayD_any _ _ _ r_b2).mono ?_
    rw [hb]
    rintro z w3 ⟨rfl, hb3⟩
    have hb23 := below_then hb2 hb3
    have hA3 := hA.keep hb23
    have hB3 := hB.keep hb23
    have hC3 := hC.keep hb23
    have hb03 := below_then hb0 hb23
    have r_a3 := r_a0.below hb23
    have r_b3 := r_b0.below hb23
    clear b0 b1 b2 hA hB hC hb0 hb2 hb3 hb23 r_a0 r_b0 hB2 r_b2
    have a0 := hA3.cell 0 rfl
    have a1 := hA3.cell 1 rfl
    have a2 := hA3.cell 2 rfl
    go_wp2_with fail
    refine (rsignD_any _ _ _ r_a3).mono ?_
    rintro z w4 ⟨rfl, hb4⟩
    clear a0 a1 a2
    have hA4 := hA3.keep hb4
    have hB4 := hB3.keep hb4
    have hC4 := hC3.keep hb4
    have hb04 := below_then hb03 hb4
    have r_a4 := r_a3.below hb4
    have r_b4 := r_b3.below hb4
    clear hA3 hB3 hC3 hb03 hb4 r_a3 r_b3
    have a0 := hB4.cell 0 rfl
    have a1 := hB4.cell 1 rfl
    have a2 := hB4.cell 2 rfl
    go_wp2_with fail
    refine (rsignD_any _ _ _ r_b4).mono ?_
    rw [sb]
    rintro z w5 ⟨rfl, hb5⟩
    clear a0 a1 a2
    have hA5 := hA4.keep hb5
    have hB5 := hB4.keep hb5
    have hC5 := hC4.keep hb5
    have hb05 := below_then hb04 hb5
    have r_a5 := r_a4.below hb5
    have r_b5 := r_b4.below hb5
    clear hA4 hB4 hC4 hb04 hb5 r_a4 r_b4
    have a0 := hA5.cell 0 rfl
    have a1 := hA5.cell 1 rfl
    have a2 := hA5.cell 2 rfl
    have f0 := hC5.frozen 0
    have f1 := hC5.frozen 1
    have f2 := hC5.frozen 2
    have d0 := hC5.cell 0 rfl
    have d1 := hC5.cell 1 rfl
    have d2 := hC5.cell 2 rfl
    obtain ⟨_, _, _, e8, hr8, _, _, _⟩ := r_a5
    have e8' := congrArg (fun v => match v with | .agg vs => vs.toList | _ => []) e8
    simp only [List.cons.injEq, Value.slice.injEq, and_true, true_and] at e8'
    obtain ⟨rfl, rfl, rfl⟩ := e8'
    obtain ⟨q0, q1, q2, HF⟩ := face_store (d := a) ⟨_, _, _, _, _, hC5⟩ hr8 hb05 (show w.heap.size ≤ w.heap.size + 1 + 1 by omega)
    clear e8 hr8
    go_wp2
    exact bodyPost_ret (v := .tuple #[.agg #[.bool a.neg, .slice A n c, .int .i64 a.e], .int .i64 0]) (by simp [results, Tryz.results98, go_sem, q0, q1, q2]) rfl ⟨⟨a, 0, A, n, c, by rw [HL.out]; exact hide rfl, rfl, _, _, _, rfl, HF.out.1, la.out, ae1, ae2⟩, HF.out.2⟩
  have sa := signD_not ha a0
  have sb := signD_not hb b0
  obtain ⟨_, a64, ee1, ee2⟩ := hda.out
  obtain ⟨_, b64, ff1, ff2⟩ := hdb.out
  have hXb := mayD_blen la.out ha
  have hYb := mayD_blen lb.out hb
  obtain ⟨e, he⟩ : ∃ e, e = min a.e b.e := ⟨_, rfl⟩
  have hfar := hide (fun h => addR_far ha la.out hb lb.out a0 b0 h)
  obtain ⟨P, hP⟩ : ∃ P, P = val BB a.m * 2 ^ (a.e - e).toNat := ⟨_, rfl⟩
  obtain ⟨Q, hQ⟩ : ∃ Q, Q = val BB b.m * 2 ^ (b.e - e).toNat := ⟨_, rfl⟩
  have hnear := hide (addR_Z ha la.out hb lb.out (show e ≤ a.e by omega) (show e ≤ b.e by omega) (show -1048576 ≤ e by omega) hP hQ)
  obtain ⟨X, hX⟩ : ∃ X, X = val BB a.m := ⟨_, rfl⟩
  obtain ⟨Y, hY⟩ : ∃ Y, Y = val BB b.m := ⟨_, rfl⟩
  rw [← hX] at hXb hP
  rw [← hY] at hYb hQ
  have HX := hide hX
  have HY := hide hY
  have HP := hide hP
  have HQ := hide hQ
  have HE := hide he
  have HS := hide hsum
  clear hX hY hP hQ he hsum a0 b0 hr kr
  have a0 := hA.cell 0 rfl
  have a1 := hA.cell 1 rfl
  have a2 := hA.cell 2 rfl
  go_enter Tryz.func98, Tryz.ntmps98
  go_upto_region 1 with fail
  generalize ((w.alloc (.cells #[.bool a.neg, .slice A n c, .int .i64 a.e] 30)).alloc (.cells #[.bool b.neg, .slice B m d, .int .i64 b.e] 30)).alloc (.cells #[.bool false, .slice none 0 0, .int .i64 0] 30) = W at *
  go_wp2_with fail
  refine (rmayD_any _ _ _ r_a0).mono ?_
  rw [ha]
  rintro z w2 ⟨rfl, hb2⟩
  have hB2 := hB.keep hb2
  have r_b2 := r_b0.below hb2
  clear a0 a1 a2
  have b0 := hB2.cell 0 rfl
  have b1 := hB2.cell 1 rfl
  have b2 := hB2.cell 2 rfl
  go_wp2_with fail
  refine (rmayD_any _ _ _ r_b2).mono ?_
  rw [hb]
  rintro z w3 ⟨rfl, hb3⟩
  have hb23 := below_then hb2 hb3
  have hA3 := hA.keep hb23
  have hB3 := hB.keep hb23
  have hC3 := hC.keep hb23
  have hb03 := below_then hb0 hb23
  have r_a3 := r_a0.below hb23
  have r_b3 := r_b0.below hb23
  clear b0 b1 b2 hA hB hC hb0 hb2 hb3 hb23 r_a0 r_b0 hB2 r_b2
  have a0 := hA3.cell 0 rfl
  have a1 := hA3.cell 1 rfl
  have a2 := hA3.cell 2 rfl
  go_wp2_with fail
  refine (rsignD_any _ _ _ r_a3).mono ?_
  rintro z w4 ⟨rfl, hb4⟩
  clear a0 a1 a2
  have hA4 := hA3.keep hb4
  have hB4 := hB3.keep hb4
  have hC4 := hC3.keep hb4
  have hb04 := below_then hb03 hb4
  have r_a4 := r_a3.below hb4
  have r_b4 := r_b3.below hb4
  clear hA3 hB3 hC3 hb03 hb4 r_a3 r_b3
  have a0 := hB4.cell 0 rfl
  have a1 := hB4.cell 1 rfl
  have a2 := hB4.cell 2 rfl
  go_wp2_with fail
  refine (rsignD_any _ _ _ r_b4).mono ?_
  rintro z w5 ⟨rfl, hb5⟩
  clear a0 a1 a2
  have hA5 := hA4.keep hb5
  have hB5 := hB4.keep hb5
  have hC5 := hC4.keep hb5
  have hb05 := below_then hb04 hb5
  have r_a5 := r_a4.below hb5
  have r_b5 := r_b4.below hb5
  clear hA4 hB4 hC4 hb04 hb5 r_a4 r_b4
  go_upto_region 7 with fail
  go_cut [6, 7] (fun s6 s7 wx => ∃ (g6 g7 : Nat) (A1 : Option Addr) (n1 c1 : Nat) (A2 : Option Addr) (n2 c2 : Nat), s6 = .pointer (some ⟨g6, 0, none⟩) ∧ s7 = .pointer (some ⟨g7, 0, none⟩) ∧ Made w5 wx a b X Y (w.heap.size + 1 + 1) g6 g7 A1 n1 c1 A2 n2 c2)
  case first =>
    obtain ⟨N, hN⟩ := new_letter 92
    obtain ⟨S0, hH, sD, sK, sA, sT, SB0, SX0⟩ := heldn_new [(w.heap.size, [.bool a.neg, .slice A n c, .int .i64 a.e], 30), (w.heap.size + 1, [.bool b.neg, .slice B m d, .int .i64 b.e], 30), (w.heap.size + 1 + 1, [.bool false, .slice none 0 0, .int .i64 0], 30)] 92 hN (fun p hp => by
      simp only [List.mem_cons, List.not_mem_nil, or_false] at hp
      rcases hp with rfl | rfl | rfl
      · exact ⟨hA5, (show 30 ≠ 92 by decide)⟩
      · exact ⟨hB5, (show 30 ≠ 92 by decide)⟩
      · exact ⟨hC5, (show 30 ≠ 92 by decide)⟩)
    obtain ⟨x0, x1, x2⟩ := box_cells (fun w' (h : Kept S0 w') => SX0 w' h (w.heap.size, [.bool a.neg, .slice A n c, .int .i64 a.e], 30) (by simp))
    obtain ⟨y0, y1, y2⟩ := box_cells (fun w' (h : Kept S0 w') => SX0 w' h (w.heap.size + 1, [.bool b.neg, .slice B m d, .int .i64 b.e], 30) (by simp))
    have SZ := hide (fun w' (h : Kept S0 w') => SX0 w' h (w.heap.size + 1 + 1, [.bool false, .slice none 0 0, .int .i64 0], 30) (by simp))
    have SB := hide SB0
    have HN := hide hN
    clear SX0 SB0 hA5 hB5 hC5
    go_region_held3 (Kept S0) (first | ((with_reducible refine sT _ ?_ _ ?_ ?_ _ _ _) <;> first | (with_reducible exact tB.la) | (with_reducible exact tB.lb) | (with_reducible exact tB.a) | (with_reducible exact tB.b) | (with_reducible exact tB.b.far3 tB.ne.symm _ _ _) | (with_reducible exact tB.a.far3 tB.ne _ _ _) | (with_reducible assumption)) | (with_reducible exact sA _ (by assumption)) | (with_reducible exact sK _ _ (by assumption) hbA) | (with_reducible exact sK _ _ (by assumption) hbB) | (with_reducible exact sD _ (by assumption)) | (with_reducible assumption))
      (first
        | (go_at_call 112; (with_reducible refine (of_any _ a _ (r_a5.below (SB.out _ (by assumption))) (by omega)).mono ?_); rintro z wA ⟨u1, rfl, ⟨A1, n1, c1, rfl, hrA⟩, hbA⟩; rw [← HX.out] at hrA; (with_reducible have hSA := sK _ _ (by assumption) hbA); (with_reducible first | have tA := nb_20D HN.out hbA (SB.out _ (sD _ hH)).size | have tA1 := nb_oneD HN.out hbA (SB.out _ (sD _ hH)).size | skip))
        | (go_at_call 112; (with_reducible refine (of_any _ b _ (r_b5.below (SB.out _ (by assumption))) (by omega)).mono ?_); rintro z wB ⟨u2, rfl, ⟨A2, n2, c2, rfl, hrB⟩, hbB⟩; rw [← HY.out] at hrB; (with_reducible first | have hrC := hrA.below hbB | have hrC := (nb_rd HN.out hrA).below hbB | have hrC := (nb_rd HN.out (nb_rd HN.out hrA)).below hbB); (with_reducible have hSB := sK _ _ (by assumption) hbB);
            (with_reducible first | have tB := tA.keep hbB | have tB := nb_11 HN.out tA1 hbB | have tB := nb_10 HN.out tA1 hbB | have tB := nb_20 HN.out hbB (SB.out _ hSA).size | have tB := nb_01 HN.out hbB (SB.out _ hSA).size | have tB := nb_00 HN.out wB (SB.out _ hSB).size);
            obtain ⟨⟨i1, i2, i3, i4, i5, i6⟩, ⟨i7, i8, i9⟩, ⟨i10, i11, i12⟩⟩ := tB.facts; obtain ⟨⟨j1, j2, j3, j4, j5, j6⟩, ⟨j7, j8, j9⟩, ⟨j10, j11, j12⟩⟩ := tB.swap.facts))
    all_goals
      clear i1 i2 i3 i4 i5 i6 i7 i8 i9 i10 i11 i12 j1 j2 j3 j4 j5 j6 j7 j8 j9 j10 j11 j12 x0 x1 x2 y0 y1 y2
      go_wp2
      go_meet
      refine ⟨_, _, A1, n1, c1, A2, n2, c2, rfl, rfl, ?_⟩
      with_reducible first
        | exact made_of tB (SZ.out _ hSB) (SB.out _ hSB) hrC hrB
        | exact made_of tB.swap (SZ.out _ hSB) (SB.out _ hSB) hrC hrB
        | exact made_of tB (SZ.out _ (sA _ hSB)) (SB.out _ (sA _ hSB)) (nb_rd HN.out hrC) (nb_rd HN.out hrB)
        | exact made_of tB.swap (SZ.out _ (sA _ hSB)) (SB.out _ (sA _ hSB)) (nb_rd HN.out hrC) (nb_rd HN.out hrB)
        | exact made_of tB (SZ.out _ (sA _ (sA _ hSB))) (SB.out _ (sA _ (sA _ hSB))) (nb_rd HN.out (nb_rd HN.out hrC)) (nb_rd HN.out (nb_rd HN.out hrB))
        | exact made_of tB.swap (SZ.out _ (sA _ (sA _ hSB))) (SB.out _ (sA _ (sA _ hSB))) (nb_rd HN.out (nb_rd HN.out hrC)) (nb_rd HN.out (nb_rd HN.out hrB))
  case rest =>
    obtain ⟨g6, g7, A1, n1, m1, A2, n2, m2, rfl, rfl, hM⟩ := hcut
    have hbW := below_then hb05 hM.b
    clear hb05 r_a5 r_b5 hA5 hB5 hC5
    have lenX := dig_len hM.ra (by omega)
    have lenY := dig_len hM.rb (by omega)
    have p0 := hM.p.cell 0 rfl
    have p1 := hM.p.cell 1 rfl
    have p2 := hM.p.cell 2 rfl
    have q0 := hM.q.cell 0 rfl
    have q1 := hM.q.cell 1 rfl
    have q2 := hM.q.cell 2 rfl
    go_upto_region 9 with fail
    rw [← HE.out]
    clear p0 p1 p2 q0 q1 q2
    have p0 := hM.p.ext 0 rfl
    have p1 := hM.p.ext 1 rfl
    have p2 := hM.p.ext 2 rfl
    have q0 := hM.q.ext 0 rfl
    have q1 := hM.q.ext 1 rfl
    have q2 := hM.q.ext 2 rfl
    have hw1 : IntKind.i64.wrap ((blen X : Int) + a.e) = (blen X : Int) + a.e := IntWalk.i64_in _ (by omega)
    have hw2 : IntKind.i64.wrap ((blen Y : Int) + b.e) = (blen Y : Int) + b.e := IntWalk.i64_in _ (by omega)
    have he0 := HE.out
    have hw3 : IntKind.i64.wrap (max ((blen X : Int) + a.e) ((blen Y : Int) + b.e) - e) = max ((blen X : Int) + a.e) ((blen Y : Int) + b.e) - e := IntWalk.i64_in _ (by omega)
    obtain ⟨M, hMx⟩ : ∃ M, M = max ((blen X : Int) + a.e) ((blen Y : Int) + b.e) - e := ⟨_, rfl⟩
    have l1 : 0 ≤ a.e - e := by omega
    have l2 : 0 ≤ b.e - e := by omega
    have l3 : M ≤ 4166 → a.e - e ≤ 4166 := by omega
    have l4 : M ≤ 4166 → b.e - e ≤ 4166 := by omega
    have hE1 : -1048576 ≤ e := by omega
    have hE2 : e ≤ 1048576 := by omega
    have l5 : M ≤ 4166 → blen P ≤ 9000 := fun h => by rw [HP.out]; exact Nat.le_trans (blen_shl_le X _) (by omega)
    have l6 : M ≤ 4166 → blen Q ≤ 9000 := fun h => by rw [HQ.out]; exact Nat.le_trans (blen_shl_le Y _) (by omega)
    have HL3 := hide (fun h : M ≤ 4166 => And.intro (Int.le_trans (l3 h) (show (4166 : Int) ≤ 1000000 by decide)) (And.intro (Int.le_trans (l4 h) (show (4166 : Int) ≤ 1000000 by decide)) (And.intro (l5 h) (l6 h))))
    have HMX := hide hMx
    clear he0 hMx l3 l4 l5 l6
    have hwA : IntKind.i64.wrap (a.e - e) = a.e - e := IntWalk.i64_in _ (by omega)
    have hwB : IntKind.i64.wrap (b.e - e) = b.e - e := IntWalk.i64_in _ (by omega)
    refine wp_region_ext wc (Below.refl _ _) (by kernel_rfl) ?_
    repeat (quiet_step ((go_at_call 119; first | (with_reducible exact calls_extq (rbitsX A1 n1 m1 X _ (hM.ra.below (Ext.hb _)) (by omega))) | (with_reducible exact calls_extq (rbitsX A2 n2 m2 Y _ (hM.rb.below (Ext.hb _)) (by omega))))))
    refine wpQuiet_nil ?_
    rintro _ ⟨e3, rfl⟩
    have hb3 := e3.hb
    generalize e3.w = w6 at *
    have hM6 := hM.keep hb3
    have hbW6 := below_then hbW hb3
    clear p0 p1 p2 q0 q1 q2 hM hb3 hbW
    rw [← HMX.out]
    by_cases hf : 4166 < M
    · have HL : Hid (R = (Dy.zero, 2)) := by unfold Hid; rw [HS.out]; exact hfar.out (by rw [← HX.out, ← HY.out, ← HE.out, ← HMX.out]; exact hf)
      have hC9 := hM6.z
      have hd : decide (4166 < M) = true := by simpa using hf
      clear hw1 hw2 hw3
      have f0 := hC9.frozen 0
      have f1 := hC9.frozen 1
      have f2 := hC9.frozen 2
      have d0 := hC9.cell 0 rfl
      have d1 := hC9.cell 1 rfl
      have d2 := hC9.cell 2 rfl
      obtain ⟨q0, q1, q2, HF⟩ := face_store (d := Dy.zero) ⟨_, _, _, _, _, hC9⟩ (RdN.nil _ _) hbW6 (show w.heap.size ≤ w.heap.size + 1 + 1 by omega)
      simp only [Dy.zero] at q0 q1 q2 HF
      go_wp2
      exact bodyPost_ret (v := .tuple #[.agg #[.bool false, .slice none 0 0, .int .i64 0], .int .i64 2]) (by simp [results, Tryz.results98, go_sem, q0, q1, q2]) rfl ⟨⟨Dy.zero, 2, none, 0, 0, by rw [HL.out]; exact hide rfl, rfl, RdD.zero _⟩, HF.out.2⟩
    · have hd : decide (4166 < M) = false := by simpa using hf
      obtain ⟨l3, l4, l5, l6⟩ := HL3.out (by omega)
      have hf' : M ≤ 4166 := by omega
      clear hw1 hw2 hw3
      go_upto_region 11 with fail
      clear hd hf hf' HL3
      have p0 := hM6.p.cellE hM6.p.lt 0 rfl
      have p1 := hM6.p.cellE hM6.p.lt 1 rfl
      have p2 := hM6.p.cellE hM6.p.lt 2 rfl
      have q0 := hM6.q.cellE hM6.q.lt 0 rfl
      have q1 := hM6.q.cellE hM6.q.lt 1 rfl
      have q2 := hM6.q.cellE hM6.q.lt 2 rfl
      go_region_held3 (fun w' => Below w6.heap.size w6 w') (first | exact (Below.refl _ _).drew | exact below_then (by assumption) hbA | exact below_then (by assumption) hbB)
        (first
          | (go_at_call 120; (with_reducible refine (rshl_int A1 n1 m1 X _ _ (hM6.ra.below (by assumption)) (by omega) l1 l3).mono ?_); rintro z wA ⟨vA, rfl, hvA, hbA⟩)
          | (go_at_call 120; (with_reducible refine (rshl_int A2 n2 m2 Y _ _ (hM6.rb.below (by assumption)) (by omega) l2 l4).mono ?_); rintro z wB ⟨vB, rfl, hvB, hbB⟩))
      all_goals
        rw [← HP.out] at hvA
        rw [← HQ.out] at hvB
        have hvA2 := hvA.below hbB
        have hb7 := below_then (below_then (Below.refl w6.heap.size w6).drew hbA) hbB
        have hM7 := hM6.keep hb7
        have hb07 := below_then hbW6 hb7
        clear p0 p1 p2 q0 q1 q2 hM6 hbW6 hb7 hvA hbA hbB
        go_wp2_with fail
        refine (rcmpR vA vB P Q _ hvA2 hvB).mono ?_
        rintro z w8 ⟨rfl, hb8⟩
        have hvA3 := hvA2.below hb8
        have hvB3 := hvB.below hb8
        have hM8 := hM7.keep hb8
        have hb08 := below_then hb07 hb8
        clear hvA2 hvB hM7 hb07 hb8
        have p0 := hM8.p.cell 0 rfl
        have q0 := hM8.q.cell 0 rfl
        have k6 : g6 ≠ w.heap.size + 1 + 1 := fun e => absurd (hM8.z.type (e ▸ hM8.p)) (by decide)
        have k7 : g7 ≠ w.heap.size + 1 + 1 := fun e => absurd (hM8.z.type (e ▸ hM8.q)) (by decide)
        obtain ⟨h1x, h2x, h3x⟩ := hnear.out
        have HN1 := hide h1x
        have HN2 := hide h2x
        have HN3 := hide h3x
        clear h1x h2x h3x hnear
        by_cases hn : a.neg = b.neg
        · have hn1 : (a.neg == b.neg) = true := by simpa using hn
          have hn2 : decide (a.neg = b.neg) = true := by simpa using hn
          have HL : Hid (R = normR a.neg (P + Q) e) := by unfold Hid; rw [HS.out]; exact (HN1.out hn).symm
          have hS6 : Hid (blen (P + Q) ≤ 1000000) := Nat.le_trans (blen_add l5 l6) (by omega)
          clear hn
          go_upto_region 14 with fail
          clear hn1 hn2 p0 q0
          obtain ⟨S0, hH, sD, sK, sS, ⟨⟨c0, z0⟩, ⟨c1, z1⟩, ⟨c2, z2⟩, k0, k1, k2⟩, SB0, SZ0, SX0⟩ := heldb_open [(g6, [.bool a.neg, .slice A1 n1 m1, .int .i64 a.e], 92), (g7, [.bool b.neg, .slice A2 n2 m2, .int .i64 b.e], 92)] (fun p hp => by
              simp only [List.mem_cons, List.not_mem_nil, or_false] at hp
              rcases hp with rfl | rfl
              · exact hM8.p
              · exact hM8.q) ⟨_, _, _, _, _, hM8.z⟩ hb08 (fun p hp => by
              simp only [List.mem_cons, List.not_mem_nil, or_false] at hp
              rcases hp with rfl | rfl <;> simp only <;> omega) (show w.heap.size ≤ w.heap.size + 1 + 1 by omega)
          obtain ⟨x0, x1, x2⟩ := box_cells (fun w' (h : Kept S0 w') => SX0 w' h (g6, [.bool a.neg, .slice A1 n1 m1, .int .i64 a.e], 92) (by simp))
          obtain ⟨y0, y1, y2⟩ := box_cells (fun w' (h : Kept S0 w') => SX0 w' h (g7, [.bool b.neg, .slice A2 n2 m2, .int .i64 b.e], 92) (by simp))
          have SB := hide SB0
          have SZ := hide SZ0
          clear SB0 SZ0 SX0
          clear hM8 hb08
          go_region_held3 (Kept S0) (first | exact sD _ (by assumption) | assumption | exact sK _ _ (by assumption) hbM | exact sK _ _ (by assumption) hbN | exact sS _ (by assumption) _ _ _ _ _)
            (first
              | (go_at_call 123; (with_reducible refine (radd_any vA vB P Q _ hvA3.drew hvB3.drew (by omega) (by omega)).mono ?_); rintro z wM ⟨pm, rfl, ⟨Am, nm, cm, rfl, hrm⟩, hbM⟩)
              | (go_at_call 122; (with_reducible refine (rnorm_any a.neg (.slice Am nm cm) (P + Q) e _ (r16_of hrm) hS6.out (by omega) (by omega)).mono ?_); rintro z wN ⟨⟨d9, x9, A9, n9, c9, h9, rfl, r9⟩, hbN⟩))
          all_goals
            have hKF : Kept S0 wN := sK _ _ (sK _ _ (sD _ hH) hbM) hbN
            obtain ⟨A8, n8, c8, e8, hr8, l8, e81, e82⟩ := r9
            have e8' := congrArg (fun v => match v with | .agg vs => vs.toList | _ => []) e8
            simp only [List.cons.injEq, Value.slice.injEq, and_true, true_and] at e8'
            obtain ⟨rfl, rfl, rfl⟩ := e8'
            obtain ⟨q0, q1, q2, HF⟩ := face_store (SZ.out _ hKF) hr8 (SB.out _ hKF) (show w.heap.size ≤ w.heap.size + 1 + 1 by omega)
            clear hr8 hKF sD sK sS x0 x1 x2 y0 y1 y2 z0 z1 z2 k0 k1 k2 e8
            go_wp2
            exact bodyPost_ret (v := .tuple #[.agg #[.bool d9.neg, .slice A9 n9 c9, .int .i64 d9.e], .int .i64 x9]) (by simp [results, Tryz.results98, go_sem, q0, q1, q2]) rfl ⟨⟨d9, x9, A9, n9, c9, by rw [HL.out]; exact h9, rfl, _, _, _, rfl, HF.out.1, l8, e81, e82⟩, HF.out.2⟩
        have hn1 : (a.neg == b.neg) = false := by simpa using hn
        have hn2 : decide (a.neg = b.neg) = false := by simpa using hn
        by_cases hc : Q ≤ P
        · have hc1 : 0 ≤ cmpN P Q := by
            have h1 := cmpN_lt P Q
            omega
          have hc2 : decide (0 ≤ cmpN P Q) = true := by simpa using hc1
          have HL : Hid (R = normR a.neg (P - Q) e) := by unfold Hid; rw [HS.out]; exact (HN2.out hn hc).symm
          have hS6 : Hid (blen (P - Q) ≤ 1000000) := Nat.le_trans (blen_mono (Nat.sub_le P Q)) (by omega)
          go_upto_region 16 with fail
          clear hn hn1 hn2 hc1 hc2 p0 q0
          obtain ⟨S0, hH, sD, sK, sS, ⟨⟨c0, z0⟩, ⟨c1, z1⟩, ⟨c2, z2⟩, k0, k1, k2⟩, SB0, SZ0, SX0⟩ := heldb_open [(g6, [.bool a.neg, .slice A1 n1 m1, .int .i64 a.e], 92), (g7, [.bool b.neg, .slice A2 n2 m2, .int .i64 b.e], 92)] (fun p hp => by
              simp only [List.mem_cons, List.not_mem_nil, or_false] at hp
              rcases hp with rfl | rfl
              · exact hM8.p
              · exact hM8.q) ⟨_, _, _, _, _, hM8.z⟩ hb08 (fun p hp => by
              simp only [List.mem_cons, List.not_mem_nil, or_false] at hp
              rcases hp with rfl | rfl <;> simp only <;> omega) (show w.heap.size ≤ w.heap.size + 1 + 1 by omega)
          obtain ⟨x0, x1, x2⟩ := box_cells (fun w' (h : Kept S0 w') => SX0 w' h (g6, [.bool a.neg, .slice A1 n1 m1, .int .i64 a.e], 92) (by simp))
          obtain ⟨y0, y1, y2⟩ := box_cells (fun w' (h : Kept S0 w') => SX0 w' h (g7, [.bool b.neg, .slice A2 n2 m2, .int .i64 b.e], 92) (by simp))
          have SB := hide SB0
          have SZ := hide SZ0
          clear SB0 SZ0 SX0
          clear hM8 hb08
          go_region_held3 (Kept S0) (first | exact sD _ (by assumption) | assumption | exact sK _ _ (by assumption) hbM | exact sK _ _ (by assumption) hbN | exact sS _ (by assumption) _ _ _ _ _)
            (first
              | (go_at_call 124; (with_reducible refine (rsub_any vA vB P Q _ hvA3.drew hvB3.drew (by omega) hc).mono ?_); rintro z wM ⟨pm, rfl, ⟨Am, nm, cm, rfl, hrm⟩, hbM⟩)
              | (go_at_call 122; (with_reducible refine (rnorm_any a.neg (.slice Am nm cm) (P - Q) e _ (r16_of hrm) hS6.out (by omega) (by omega)).mono ?_); rintro z wN ⟨⟨d9, x9, A9, n9, c9, h9, rfl, r9⟩, hbN⟩))
          all_goals
            have hKF : Kept S0 wN := sK _ _ (sK _ _ (sD _ hH) hbM) hbN
            obtain ⟨A8, n8, c8, e8, hr8, l8, e81, e82⟩ := r9
            have e8' := congrArg (fun v => match v with | .agg vs => vs.toList | _ => []) e8
            simp only [List.cons.injEq, Value.slice.injEq, and_true, true_and] at e8'
            obtain ⟨rfl, rfl, rfl⟩ := e8'
            obtain ⟨q0, q1, q2, HF⟩ := face_store (SZ.out _ hKF) hr8 (SB.out _ hKF) (show w.heap.size ≤ w.heap.size + 1 + 1 by omega)
            clear hr8 hKF sD sK sS x0 x1 x2 y0 y1 y2 z0 z1 z2 k0 k1 k2 e8
            go_wp2
            exact bodyPost_ret (v := .tuple #[.agg #[.bool d9.neg, .slice A9 n9 c9, .int .i64 d9.e], .int .i64 x9]) (by simp [results, Tryz.results98, go_sem, q0, q1, q2]) rfl ⟨⟨d9, x9, A9, n9, c9, by rw [HL.out]; exact h9, rfl, _, _, _, rfl, HF.out.1, l8, e81, e82⟩, HF.out.2⟩
        · have hc1 : cmpN P Q < 0 := (cmpN_lt P Q).1 (by omega)
          have hc2 : decide (0 ≤ cmpN P Q) = false := by simpa using hc1
          have hc3 : P ≤ Q := by omega
          have HL : Hid (R = normR b.neg (Q - P) e) := by unfold Hid; rw [HS.out]; exact (HN3.out hn hc3).symm
          have hS6 : Hid (blen (Q - P) ≤ 1000000) := Nat.le_trans (blen_mono (Nat.sub_le Q P)) (by omega)
          go_upto_region 17 with fail
          clear hn hn1 hn2 hc hc1 hc2 p0 q0
          obtain ⟨S0, hH, sD, sK, sS, ⟨⟨c0, z0⟩, ⟨c1, z1⟩, ⟨c2, z2⟩, k0, k1, k2⟩, SB0, SZ0, SX0⟩ := heldb_open [(g6, [.bool a.neg, .slice A1 n1 m1, .int .i64 a.e], 92), (g7, [.bool b.neg, .slice A2 n2 m2, .int .i64 b.e], 92)] (fun p hp => by
              simp only [List.mem_cons, List.not_mem_nil, or_false] at hp
              rcases hp with rfl | rfl
              · exact hM8.p
              · exact hM8.q) ⟨_, _, _, _, _, hM8.z⟩ hb08 (fun p hp => by
              simp only [List.mem_cons, List.not_mem_nil, or_false] at hp
              rcases hp with rfl | rfl <;> simp only <;> omega) (show w.heap.size ≤ w.heap.size + 1 + 1 by omega)
          obtain ⟨x0, x1, x2⟩ := box_cells (fun w' (h : Kept S0 w') => SX0 w' h (g6, [.bool a.neg, .slice A1 n1 m1, .int .i64 a.e], 92) (by simp))
          obtain ⟨y0, y1, y2⟩ := box_cells (fun w' (h : Kept S0 w') => SX0 w' h (g7, [.bool b.neg, .slice A2 n2 m2, .int .i64 b.e], 92) (by simp))
          have SB := hide SB0
          have SZ := hide SZ0
          clear SB0 SZ0 SX0
          clear hM8 hb08
          go_region_held3 (Kept S0) (first | exact sD _ (by assumption) | assumption | exact sK _ _ (by assumption) hbM | exact sK _ _ (by assumption) hbN | exact sS _ (by assumption) _ _ _ _ _)
            (first
              | (go_at_call 124; (with_reducible refine (rsub_any vB vA Q P _ hvB3.drew hvA3.drew (by omega) hc3).mono ?_); rintro z wM ⟨pm, rfl, ⟨Am, nm, cm, rfl, hrm⟩, hbM⟩)
              | (go_at_call 122; (with_reducible refine (rnorm_any b.neg (.slice Am nm cm) (Q - P) e _ (r16_of hrm) hS6.out (by omega) (by omega)).mono ?_); rintro z wN ⟨⟨d9, x9, A9, n9, c9, h9, rfl, r9⟩, hbN⟩))
          all_goals
            have hKF : Kept S0 wN := sK _ _ (sK _ _ (sD _ hH) hbM) hbN
            obtain ⟨A8, n8, c8, e8, hr8, l8, e81, e82⟩ := r9
            have e8' := congrArg (fun v => match v with | .agg vs => vs.toList | _ => []) e8
            simp only [List.cons.injEq, Value.slice.injEq, and_true, true_and] at e8'
            obtain ⟨rfl, rfl, rfl⟩ := e8'
            obtain ⟨q0, q1, q2, HF⟩ := face_store (SZ.out _ hKF) hr8 (SB.out _ hKF) (show w.heap.size ≤ w.heap.size + 1 + 1 by omega)
            clear hr8 hKF sD sK sS x0 x1 x2 y0 y1 y2 z0 z1 z2 k0 k1 k2 e8
            go_wp2
            exact bodyPost_ret (v := .tuple #[.agg #[.bool d9.neg, .slice A9 n9 c9, .int .i64 d9.e], .int .i64 x9]) (by simp [results, Tryz.results98, go_sem, q0, q1, q2]) rfl ⟨⟨d9, x9, A9, n9, c9, by rw [HL.out]; exact h9, rfl, _, _, _, rfl, HF.out.1, l8, e81, e82⟩, HF.out.2⟩

end Go.Proofs.YtbpfnooloemieaaGreatDoor
