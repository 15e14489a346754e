/- Contracts of the document's answer sluicewayref1, part M: Norm. Words for a region that draws its order and makes two variables of three cells beside its calls. -/
import Derived.Test.YtbpfnooloemieaaGreatDoorRfLx
import Derived.Test.YtbpfnooloemieaaGreatDoorL2Ex
namespace Go.Proofs.YtbpfnooloemieaaGreatDoor
open Go.RowKit Pl
attribute [local go_sem ↓] Go.wp_at_zero Go.wp_at_succ

/-- Norm of the document's answer. -/
def normR (neg : Bool) (X : Nat) (e : Int) : Dy × Int :=
  if X = 0 then (Dy.zero, 0)
  else if ¬ (limbs BB (X / 2 ^ tz X)).length ≤ 64 then (Dy.zero, 2)
  else if 1048576 < e ∨ e < -1053576 ∨ 1048576 < e + (tz X : Int) ∨ e + (tz X : Int) < -1048576 then (Dy.zero, 3)
  else (⟨neg, limbs BB (X / 2 ^ tz X), e + (tz X : Int)⟩, 0)
theorem normR_S {neg : Bool} {X : Nat} {e : Int} (h : tz X ≤ 5000 ∨ -1053576 ≤ e) : normR neg X e = fitS neg X e := by
  unfold normR
  by_cases h0 : X = 0
  · rw [if_pos h0, h0, fitS_zero]
  · rw [if_neg h0, fitS_eq h0]
    split
    · rfl
    · by_cases h1 : -1048576 ≤ e + (tz X : Int) ∧ e + (tz X : Int) ≤ 1048576
      · rw [if_pos h1, if_neg (by omega)]
      · rw [if_neg h1, if_pos (by omega)]
theorem rlowX (u : Value) (X : Nat) (w : World) (h : R16 w u X) (h0 : X ≠ 0) (hX : blen X ≤ 1000000) :
    Calls Tryz.prog 137 #[u] w fun e w' => e = .returned (.int .i64 (tz X : Nat)) ∧ w = w' := by
  obtain ⟨A, n, c, rfl, hr⟩ := h
  exact low_any A n c X w hr h0 hX
theorem rshrX (u : Value) (X : Nat) (w : World) (h : R16 w u X) (hX : blen X ≤ 1500000) (j : Nat) (hj : j ≤ 1000000) :
    Calls Tryz.prog 138 #[u, .int .i64 (j : Int)] w fun e w' => (∃ z, e = .returned z ∧ R16 w' z (X / 2 ^ j)) ∧ Below w.heap.size w w' := by
  obtain ⟨A, n, c, rfl, hr⟩ := h
  exact (rshr_any A n c X j w hr (dig_len' hr (show blen X ≤ 16 * 100000 by omega)) hj).mono fun e w' ⟨v, he, hv, hb⟩ => ⟨⟨v, he, hv⟩, hb⟩

set_option maxRecDepth 100000 in
set_option maxHeartbeats 8000000 in
theorem rnorm_any (neg : Bool) (u : Value) (X : Nat) (e : Int) (w : World) (h : R16 w u X) (hX : blen X ≤ 1000000) (he1 : -9223372036854775808 ≤ e) (he2 : e ≤ 9223372036854775807) :
    Calls Tryz.prog 122 #[.agg #[.bool neg, u, .int .i64 e]] w fun x w' => DyTup w' x (normR neg X e) ∧ Below w.heap.size w w' := by
  have hh := h
  obtain ⟨A, n, c, rfl, hr⟩ := h
  have hlen := hr.len
  obtain ⟨hA, hC, hb0⟩ := box_2 w [.bool neg, .slice A n c, .int .i64 e] [.bool false, .slice none 0 0, .int .i64 0] 92 30
  have hh0 := hh.below hb0
  have a0 := hA.cell 0 rfl
  have a1 := hA.cell 1 rfl
  have a2 := hA.cell 2 rfl
  have f0 := hC.frozen 0
  have f1 := hC.frozen 1
  have f2 := hC.frozen 2
  have d0 := hC.cell 0 rfl
  have d1 := hC.cell 1 rfl
  have d2 := hC.cell 2 rfl
  clear hh
  by_cases h0 : X = 0
  · have hn0 : n = 0 := by rw [← hlen, h0]; rfl
    have HN : Hid (normR neg X e = (Dy.zero, 0)) := by unfold Hid normR; rw [if_pos h0]
    have dn : ((n : Int) == 0) = true := by rw [beq_iff_eq]; omega
    obtain ⟨q0, q1, q2, HF⟩ := face_store (d := Dy.zero) ⟨_, _, _, _, _, hC⟩ (RdN.nil _ _) hb0 (show w.heap.size ≤ w.heap.size + 1 by omega)
    simp only [Dy.zero] at q0 q1 q2 HF
    clear h0 hn0 hr
    go_enter Tryz.func122, Tryz.ntmps122
    go_upto_region 1 with fail
    generalize ((w.alloc (.cells #[.bool neg, .slice A n c, .int .i64 e] 92)).alloc (.cells #[.bool false, .slice none 0 0, .int .i64 0] 30)) = W at *
    go_wp2
    exact bodyPost_ret (v := .tuple #[.agg #[.bool false, .slice none 0 0, .int .i64 0], .int .i64 0]) (by simp [results, Tryz.results122, go_sem, q0, q1, q2]) rfl ⟨⟨Dy.zero, 0, none, 0, 0, by rw [HN.out]; exact hide rfl, rfl, RdD.zero _⟩, HF.out.2⟩
  · have hn0 : ((n : Int) == 0) = false := by
      rw [beq_eq_false_iff_ne]
      intro e9
      have : n = 0 := by omega
      rw [this] at hlen
      exact h0 ((limbs_eq_nil DD_gt1).1 (List.length_eq_zero_iff.1 hlen))
    have hX5 : Hid (blen X ≤ 1500000) := by unfold Hid; omega
    have htz : tz X ≤ 1000000 := Nat.le_trans (Nat.le_of_lt (tz_lt_blen h0)) hX
    obtain ⟨t, ht⟩ : ∃ t, t = tz X := ⟨_, rfl⟩
    obtain ⟨M, hM⟩ : ∃ M, M = X / 2 ^ t := ⟨_, rfl⟩
    have hMb : Hid (blen M ≤ 1500000) := by unfold Hid; rw [hM]; exact Nat.le_trans (blen_mono (Nat.div_le_self _ _)) hX5.out
    have HN : Hid (normR neg X e = if ¬ (limbs BB M).length ≤ 64 then (Dy.zero, 2) else if 1048576 < e ∨ e < -1053576 ∨ 1048576 < e + (t : Int) ∨ e + (t : Int) < -1048576 then (Dy.zero, 3) else (⟨neg, limbs BB M, e + (t : Int)⟩, 0)) := by
      unfold Hid normR; rw [if_neg h0, hM, ht]
    have H0 := hide h0
    have HX := hide hX
    rw [← ht] at htz
    have HT2 := hide ht
    have HM := hide hM
    clear ht hM h0 hX hr
    go_enter Tryz.func122, Tryz.ntmps122
    go_upto_region 1 with fail
    generalize ((w.alloc (.cells #[.bool neg, .slice A n c, .int .i64 e] 92)).alloc (.cells #[.bool false, .slice none 0 0, .int .i64 0] 30)) = W at *
    go_wp2_with fail
    refine (rlowX _ X _ hh0 H0.out HX.out).mono ?_
    rw [← HT2.out]
    rintro z w' ⟨rfl, rfl⟩
    go_wp2_with fail
    refine (rshrX _ X _ hh0 hX5.out t htz).mono ?_
    rw [← HM.out]
    rintro z w2 ⟨⟨m, rfl, hm⟩, hb2⟩
    have hA2 := hA.keep hb2
    have hC2 := hC.keep hb2
    have hb02 := below_then hb0 hb2
    clear a0 a1 a2 f0 f1 f2 d0 d1 d2 hA hC hb0 hb2 hh0
    have a0 := hA2.cell 0 rfl
    have a1 := hA2.cell 1 rfl
    have a2 := hA2.cell 2 rfl
    have f0 := hC2.frozen 0
    have f1 := hC2.frozen 1
    have f2 := hC2.frozen 2
    have d0 := hC2.cell 0 rfl
    have d1 := hC2.cell 1 rfl
    have d2 := hC2.cell 2 rfl
    obtain ⟨q0, q1, q2, HF⟩ := face_store (d := Dy.zero) ⟨_, _, _, _, _, hC2⟩ (RdN.nil _ _) hb02 (show w.heap.size ≤ w.heap.size + 1 by omega)
    simp only [Dy.zero] at q0 q1 q2 HF
    go_wp2_with fail
    refine (great_any _ M _ hm).mono ?_
    by_cases hg : ¬ (limbs BB M).length ≤ 64
    · rw [decide_eq_true hg]
      rintro z w' ⟨rfl, rfl⟩
      have HL : Hid (normR neg X e = (Dy.zero, 2)) := by unfold Hid; rw [HN.out, if_pos hg]
      clear hg
      go_wp2
      exact bodyPost_ret (v := .tuple #[.agg #[.bool false, .slice none 0 0, .int .i64 0], .int .i64 2]) (by simp [results, Tryz.results122, go_sem, q0, q1, q2]) rfl ⟨⟨Dy.zero, 2, none, 0, 0, by rw [HL.out]; exact hide rfl, rfl, RdD.zero _⟩, HF.out.2⟩
    rw [decide_eq_false hg]
    rintro z w' ⟨rfl, rfl⟩
    by_cases hr : 1048576 < e ∨ e < -1053576 ∨ 1048576 < e + (t : Int) ∨ e + (t : Int) < -1048576
    · have HL : Hid (normR neg X e = (Dy.zero, 3)) := by unfold Hid; rw [HN.out, if_neg hg, if_pos hr]
      have fin : ∀ (x : Nat), True := fun _ => trivial
      clear fin
      have done : ∀ {a : Act}, a.defers = [] → True := fun _ => trivial
      clear done
      by_cases r1 : 1048576 < e
      · have g1 : decide (1048576 < e) = true := decide_eq_true r1
        clear hr hg r1
        go_wp2
        exact bodyPost_ret (v := .tuple #[.agg #[.bool false, .slice none 0 0, .int .i64 0], .int .i64 3]) (by simp [results, Tryz.results122, go_sem, q0, q1, q2]) rfl ⟨⟨Dy.zero, 3, none, 0, 0, by rw [HL.out]; exact hide rfl, rfl, RdD.zero _⟩, HF.out.2⟩
      · have g1 : decide (1048576 < e) = false := decide_eq_false r1
        by_cases r2 : e < -1053576
        · have g2 : decide (e < -1053576) = true := decide_eq_true r2
          clear hr hg r1 r2
          go_wp2
          exact bodyPost_ret (v := .tuple #[.agg #[.bool false, .slice none 0 0, .int .i64 0], .int .i64 3]) (by simp [results, Tryz.results122, go_sem, q0, q1, q2]) rfl ⟨⟨Dy.zero, 3, none, 0, 0, by rw [HL.out]; exact hide rfl, rfl, RdD.zero _⟩, HF.out.2⟩
        · have g2 : decide (e < -1053576) = false := decide_eq_false r2
          have hw : IntKind.i64.wrap (e + (t : Int)) = e + (t : Int) := IntWalk.i64_in _ (by omega)
          by_cases r3 : 1048576 < e + (t : Int)
          · have g3 : decide (1048576 < e + (t : Int)) = true := decide_eq_true r3
            clear hr hg r3
            go_wp2
            exact bodyPost_ret (v := .tuple #[.agg #[.bool false, .slice none 0 0, .int .i64 0], .int .i64 3]) (by simp [results, Tryz.results122, go_sem, q0, q1, q2]) rfl ⟨⟨Dy.zero, 3, none, 0, 0, by rw [HL.out]; exact hide rfl, rfl, RdD.zero _⟩, HF.out.2⟩
          · have g3 : decide (1048576 < e + (t : Int)) = false := decide_eq_false r3
            have g4 : decide (e + (t : Int) < -1048576) = true := decide_eq_true (by omega)
            clear hr hg r3
            go_wp2
            exact bodyPost_ret (v := .tuple #[.agg #[.bool false, .slice none 0 0, .int .i64 0], .int .i64 3]) (by simp [results, Tryz.results122, go_sem, q0, q1, q2]) rfl ⟨⟨Dy.zero, 3, none, 0, 0, by rw [HL.out]; exact hide rfl, rfl, RdD.zero _⟩, HF.out.2⟩
    · have HL : Hid (normR neg X e = (⟨neg, limbs BB M, e + (t : Int)⟩, 0)) := by unfold Hid; rw [HN.out, if_neg hg, if_neg hr]
      have g1 : decide (1048576 < e) = false := decide_eq_false (by omega)
      have g2 : decide (e < -1053576) = false := decide_eq_false (by omega)
      have g3 : decide (1048576 < e + (t : Int)) = false := decide_eq_false (by omega)
      have g4 : decide (e + (t : Int) < -1048576) = false := decide_eq_false (by omega)
      have hw : IntKind.i64.wrap (e + (t : Int)) = e + (t : Int) := IntWalk.i64_in _ (by omega)
      have hee : -9223372036854775808 ≤ e + (t : Int) ∧ e + (t : Int) ≤ 9223372036854775807 := by omega
      obtain ⟨S0, hH, sD, sK, sS, ⟨⟨c0, z0⟩, ⟨c1, z1⟩, ⟨c2, z2⟩, k0, k1, k2⟩, SB0, SZ0, SX0⟩ := heldb_open [(w.heap.size, [.bool neg, .slice A n c, .int .i64 e], 92)] (fun p hp => by
        simp only [List.mem_cons, List.not_mem_nil, or_false] at hp
        rw [hp]; exact hA2) ⟨_, _, _, _, _, hC2⟩ hb02 (fun p hp => by
        simp only [List.mem_cons, List.not_mem_nil, or_false] at hp
        rw [hp]; simp only; omega) (show w.heap.size ≤ w.heap.size + 1 by omega)
      obtain ⟨x0, x1, x2⟩ := box_cells (fun w' (h : Kept S0 w') => SX0 w' h (w.heap.size, [.bool neg, .slice A n c, .int .i64 e], 92) (by simp))
      have SB := hide SB0
      have SZ := hide SZ0
      clear SB0 SZ0 SX0 hg hr q0 q1 q2 HF
      go_upto_region 9 with fail
      clear a0 a1 a2 f0 f1 f2 d0 d1 d2 hA2 hC2 hb02
      go_region_held3 (Kept S0) (first | exact sD _ (by assumption) | assumption | exact sK _ _ (by assumption) hbA | exact sS _ (by assumption) _ _ _ _ _)
        (first
          | (go_at_call 140; (with_reducible refine (limbsX _ M _ (by first | exact hm.drew | exact hm) hMb.out).mono ?_); rintro z wA ⟨⟨p, rfl, hp⟩, hbA⟩; obtain ⟨Ap, np, cp, rfl, hrp⟩ := hp))
      all_goals
        have hKF := sK _ _ (sD _ hH) hbA
        obtain ⟨q0, q1, q2, HF⟩ := face_store (d := ⟨neg, limbs BB M, e + (t : Int)⟩) (SZ.out _ hKF) hrp (SB.out _ hKF) (show w.heap.size ≤ w.heap.size + 1 by omega)
        simp only at q0 q1 q2 HF
        clear hrp hKF sD sK sS x0 x1 x2 z0 z1 z2 k0 k1 k2
        go_wp2
        exact bodyPost_ret (v := .tuple #[.agg #[.bool neg, .slice Ap np cp, .int .i64 (e + (t : Int))], .int .i64 0]) (by simp [results, Tryz.results122, go_sem, q0, q1, q2]) rfl ⟨⟨⟨neg, limbs BB M, e + (t : Int)⟩, 0, Ap, np, cp, by rw [HL.out]; exact hide rfl, rfl, _, _, _, rfl, HF.out.1, limbs_lim BB_gt1 _, hee.1, hee.2⟩, HF.out.2⟩
end Go.Proofs.YtbpfnooloemieaaGreatDoor
namespace Go.Proofs.YtbpfnooloemieaaGreatDoor
open Go.RowKit Pl

theorem Box.type {w : World} {b : Nat} {vs us : List Value} {t s : TypeId} (h : Box w b vs t) (k : Box w b us s) : t = s := by
  unfold Box at h k
  rw [h] at k
  injection k with k
  injection k
theorem Box.grow {w : World} {b : Nat} {vs : List Value} {t : TypeId} (h : Box w b vs t) (o : Obj) : Box (w.alloc o) b vs t := h.keep (by go_grown)
/-- What such a region keeps: the blocks bs, and all that lies below W0's size. -/
structure HeldN (W0 : World) (bs : List (Nat × List Value × TypeId)) (t : TypeId) (w : World) : Prop where
  x : ∀ p ∈ bs, Box w p.1 p.2.1 p.2.2 ∧ p.2.2 ≠ t
  b : Below W0.heap.size W0 w
/-- Two new variables. -/
structure TwoBox (W : World) (B g g' : Nat) (t : TypeId) : Prop where
  a : Box W g [.bool false, .slice none 0 0, .int .i64 0] t
  b : Box W g' [.bool false, .slice none 0 0, .int .i64 0] t
  ne : g ≠ g'
  la : B ≤ g
  lb : B ≤ g'
theorem TwoBox.swap {W : World} {B g g' : Nat} {t : TypeId} (h : TwoBox W B g g' t) : TwoBox W B g' g t := ⟨h.b, h.a, h.ne.symm, h.lb, h.la⟩
theorem TwoBox.facts {W : World} {B g g' : Nat} {t : TypeId} (h : TwoBox W B g g' t) :
    (W.cell? ⟨g, 0, none⟩ = some (.bool false) ∧ W.cell? ⟨g, 1, none⟩ = some (.slice none 0 0) ∧ W.cell? ⟨g, 2, none⟩ = some (.int .i64 0) ∧ W.frozen? ⟨g, 0, none⟩ = false ∧ W.frozen? ⟨g, 1, none⟩ = false ∧ W.frozen? ⟨g, 2, none⟩ = false) ∧
    ((∀ v0 v1 v2, (((W.setCell ⟨g, 0, none⟩ v0).setCell ⟨g, 1, none⟩ v1).setCell ⟨g, 2, none⟩ v2).cell? ⟨g', 0, none⟩ = some (.bool false)) ∧ (∀ v0 v1 v2, (((W.setCell ⟨g, 0, none⟩ v0).setCell ⟨g, 1, none⟩ v1).setCell ⟨g, 2, none⟩ v2).cell? ⟨g', 1, none⟩ = some (.slice none 0 0)) ∧
      (∀ v0 v1 v2, (((W.setCell ⟨g, 0, none⟩ v0).setCell ⟨g, 1, none⟩ v1).setCell ⟨g, 2, none⟩ v2).cell? ⟨g', 2, none⟩ = some (.int .i64 0))) ∧
    ((∀ v0 v1 v2, (((W.setCell ⟨g, 0, none⟩ v0).setCell ⟨g, 1, none⟩ v1).setCell ⟨g, 2, none⟩ v2).frozen? ⟨g', 0, none⟩ = false) ∧ (∀ v0 v1 v2, (((W.setCell ⟨g, 0, none⟩ v0).setCell ⟨g, 1, none⟩ v1).setCell ⟨g, 2, none⟩ v2).frozen? ⟨g', 1, none⟩ = false) ∧
      (∀ v0 v1 v2, (((W.setCell ⟨g, 0, none⟩ v0).setCell ⟨g, 1, none⟩ v1).setCell ⟨g, 2, none⟩ v2).frozen? ⟨g', 2, none⟩ = false)) := by
  have hx := fun v0 v1 v2 => h.b.far3 (g := g) h.ne.symm v0 v1 v2
  exact ⟨⟨h.a.cell 0 rfl, h.a.cell 1 rfl, h.a.cell 2 rfl, h.a.frozen 0, h.a.frozen 1, h.a.frozen 2⟩,
    ⟨fun v0 v1 v2 => (hx v0 v1 v2).cell 0 rfl, fun v0 v1 v2 => (hx v0 v1 v2).cell 1 rfl, fun v0 v1 v2 => (hx v0 v1 v2).cell 2 rfl⟩,
    ⟨fun v0 v1 v2 => (hx v0 v1 v2).frozen 0, fun v0 v1 v2 => (hx v0 v1 v2).frozen 1, fun v0 v1 v2 => (hx v0 v1 v2).frozen 2⟩⟩

section
variable {w w' : World} {B g g' : Nat} {t : TypeId}
theorem TwoBox.keep (h : TwoBox w B g g' t) (hb : Below w.heap.size w w') : TwoBox w' B g g' t := ⟨h.a.keep hb, h.b.keep hb, h.ne, h.la, h.lb⟩
end

/-! The same, the alloc behind a letter: the walk's own laws on allocs and stores do not see it then. -/
theorem new_letter (t : TypeId) : ∃ N : World → World, ∀ w, w.alloc (.cells #[.bool false, .slice none 0 0, .int .i64 0] t) = N w := ⟨_, fun _ => rfl⟩
section
variable {N : World → World} {w w' : World} {B g : Nat} {t : TypeId} (hN : ∀ w : World, w.alloc (.cells #[.bool false, .slice none 0 0, .int .i64 0] t) = N w)
include hN
theorem nb_box (w : World) : Box (N w) w.heap.size [.bool false, .slice none 0 0, .int .i64 0] t := by rw [← hN]; exact Box.new w [.bool false, .slice none 0 0, .int .i64 0] t
theorem nb_below (w : World) : Below w.heap.size w (N w) := by rw [← hN]; go_grown
theorem nb_size (w : World) : (N w).heap.size = w.heap.size + 1 := by rw [← hN]; simp
theorem nb_rd {K : IntKind} {A : Option Addr} {n c : Nat} {xs : List Nat} (h : RdN K w A n c xs) : RdN K (N w) A n c xs := h.below (nb_below hN w)
theorem nb_one (hb : Below (N w).heap.size (N w) w') (hB : B ≤ w.heap.size) : Box w' w.heap.size [.bool false, .slice none 0 0, .int .i64 0] t ∧ B ≤ w.heap.size ∧ w.heap.size < w'.heap.size :=
  ⟨(nb_box hN w).keep hb, hB, ((nb_box hN w).keep hb).lt⟩
theorem nb_20 (hb : Below (N (N w)).heap.size (N (N w)) w') (hB : B ≤ w.heap.size) : TwoBox w' B w.heap.size (N w).heap.size t := by
  have h1 := nb_size hN w
  exact ⟨((nb_box hN w).keep (nb_below hN (N w))).keep hb, (nb_box hN (N w)).keep hb, by omega, hB, by omega⟩
theorem nb_oneD (hb : Below (N w.drew).heap.size (N w.drew) w') (hB : B ≤ w.drew.heap.size) : Box w' w.heap.size [.bool false, .slice none 0 0, .int .i64 0] t ∧ B ≤ w.heap.size ∧ w.heap.size < w'.heap.size := nb_one (w := w.drew) hN hb hB
theorem nb_20D (hb : Below (N (N w.drew)).heap.size (N (N w.drew)) w') (hB : B ≤ w.drew.heap.size) : TwoBox w' B w.heap.size (N w.drew).heap.size t := nb_20 (w := w.drew) hN hb hB
theorem nb_11 (h : Box w g [.bool false, .slice none 0 0, .int .i64 0] t ∧ B ≤ g ∧ g < w.heap.size) (hb : Below (N w).heap.size (N w) w') : TwoBox w' B g w.heap.size t :=
  ⟨(h.1.keep (nb_below hN w)).keep hb, (nb_box hN w).keep hb, Nat.ne_of_lt h.2.2, h.2.1, by have := h.2; omega⟩
theorem nb_10 (h : Box w g [.bool false, .slice none 0 0, .int .i64 0] t ∧ B ≤ g ∧ g < w.heap.size) (hb : Below w.heap.size w w') : TwoBox (N w') B g w'.heap.size t :=
  ⟨(h.1.keep hb).keep (nb_below hN w'), nb_box hN w', by have := (h.1.keep hb).lt; omega, h.2.1, by have := (h.1.keep hb).lt; have := h.2; omega⟩
theorem nb_01 (hb : Below (N w).heap.size (N w) w') (hB : B ≤ w.heap.size) : TwoBox (N w') B w.heap.size w'.heap.size t := by
  obtain ⟨h1, h2, h3⟩ := nb_one hN hb hB
  exact ⟨h1.keep (nb_below hN w'), nb_box hN w', by omega, hB, by omega⟩
theorem nb_00 (w : World) (hB : B ≤ w.heap.size) : TwoBox (N (N w)) B w.heap.size (N w).heap.size t := by
  have h1 := nb_size hN w
  exact ⟨(nb_box hN w).keep (nb_below hN (N w)), nb_box hN (N w), by omega, hB, by omega⟩
end

/-- What a region keeps that makes two variables of type t. -/
theorem heldn_open {W : World} (bs : List (Nat × List Value × TypeId)) (t : TypeId) (hA : ∀ p ∈ bs, Box W p.1 p.2.1 p.2.2 ∧ p.2.2 ≠ t) :
    ∃ S : World → Prop, Kept S W ∧ (∀ w', Kept S w' → Kept S w'.drew) ∧ (∀ w' w'', Kept S w' → Below w'.heap.size w' w'' → Kept S w'') ∧
      (∀ w', Kept S w' → ∀ vs, Kept S (w'.alloc (.cells vs t))) ∧
      (∀ w', Kept S w' → ∀ g, Box w' g [.bool false, .slice none 0 0, .int .i64 0] t → W.heap.size ≤ g → ∀ v0 v1 v2, Kept S (((w'.setCell ⟨g, 0, none⟩ v0).setCell ⟨g, 1, none⟩ v1).setCell ⟨g, 2, none⟩ v2)) ∧
      (∀ w', Kept S w' → Below W.heap.size W w') ∧ (∀ w', Kept S w' → ∀ p ∈ bs, Box w' p.1 p.2.1 p.2.2) := by
  refine ⟨HeldN W bs t, ⟨hA, Below.refl _ _⟩, fun w' h => ?_, fun w' w'' h hb => ?_, fun w' h vs => ?_, fun w' h g hg hB v0 v1 v2 => ?_, ?_, ?_⟩
  · have h : HeldN W bs t w' := h
    exact ⟨fun p hp => ⟨(h.x p hp).1.drew, (h.x p hp).2⟩, h.b.drew⟩
  · have h : HeldN W bs t w' := h
    exact ⟨fun p hp => ⟨(h.x p hp).1.keep hb, (h.x p hp).2⟩, below_then h.b hb⟩
  · have h : HeldN W bs t w' := h
    exact ⟨fun p hp => ⟨(h.x p hp).1.grow _, (h.x p hp).2⟩, h.b.alloc h.b.size _⟩
  · have h : HeldN W bs t w' := h
    exact ⟨fun p hp => ⟨(h.x p hp).1.far3 (fun e => (h.x p hp).2 (by have h2 := (h.x p hp).1; rw [e] at h2; exact h2.type hg)) _ _ _, (h.x p hp).2⟩, below_store3 h.b hB _ _ _⟩
  · exact fun w' h => HeldN.b h
  · exact fun w' h p hp => (HeldN.x h p hp).1
/-- The same with the alloc behind a letter. -/
theorem heldn_new {W : World} {N : World → World} (bs : List (Nat × List Value × TypeId)) (t : TypeId) (hN : ∀ w : World, w.alloc (.cells #[.bool false, .slice none 0 0, .int .i64 0] t) = N w) (hA : ∀ p ∈ bs, Box W p.1 p.2.1 p.2.2 ∧ p.2.2 ≠ t) :
    ∃ S : World → Prop, Kept S W ∧ (∀ w', Kept S w' → Kept S w'.drew) ∧ (∀ w' w'', Kept S w' → Below w'.heap.size w' w'' → Kept S w'') ∧
      (∀ w', Kept S w' → Kept S (N w')) ∧
      (∀ w', Kept S w' → ∀ g, Box w' g [.bool false, .slice none 0 0, .int .i64 0] t → W.heap.size ≤ g → ∀ v0 v1 v2, Kept S (((w'.setCell ⟨g, 0, none⟩ v0).setCell ⟨g, 1, none⟩ v1).setCell ⟨g, 2, none⟩ v2)) ∧
      (∀ w', Kept S w' → Below W.heap.size W w') ∧ (∀ w', Kept S w' → ∀ p ∈ bs, Box w' p.1 p.2.1 p.2.2) := by
  obtain ⟨S, h1, h2, h3, h4, h5, h6, h7⟩ := heldn_open bs t hA
  exact ⟨S, h1, h2, h3, fun w' h => by rw [← hN]; exact h4 _ h _, h5, h6, h7⟩
end Go.Proofs.YtbpfnooloemieaaGreatDoor
