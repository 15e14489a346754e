/- Contracts of package bound, part A: Rounds. -/
import Derived.Test.YtdnknokhcliikaaDoorDyH
import Derived.WalkMore
import Derived.Deep.CutBlock
namespace Go.Proofs.YtdnknokhcliikaaDoor
open Go.RowKit Pl

/-- bound.Rounds. -/
def roundsS (r s : Int) : Int := 40 + 10 * (min (max r 0) 100000 * min (max s 0) 16 + min (max r 0) 100000)
theorem rounds_any (r s : Int) (w : World) :
    Calls Tryd.prog 14 #[.int .i64 r, .int .i64 s] w fun e w' => e = .returned (.int .i64 (roundsS r s)) ∧ w = w' := by
  obtain ⟨n, hn⟩ : ∃ n, n = min (max r 0) 100000 := ⟨_, rfl⟩
  obtain ⟨k, hk⟩ : ∃ k, k = min (max s 0) 16 := ⟨_, rfl⟩
  have n0 : 0 ≤ n ∧ n ≤ 100000 := by omega
  have k0 : 0 ≤ k ∧ k ≤ 16 := by omega
  have m0 : 0 ≤ n * k := Int.mul_nonneg n0.1 k0.1
  have m1 : n * k ≤ 100000 * 16 := Int.mul_le_mul n0.2 k0.2 k0.1 (by omega)
  have w1 : IntKind.i64.wrap (n * k) = n * k := IntWalk.i64_in _ (by omega)
  have w2 : IntKind.i64.wrap (n * k + n) = n * k + n := IntWalk.i64_in _ (by omega)
  have w3 : IntKind.i64.wrap (10 * (n * k + n)) = 10 * (n * k + n) := IntWalk.i64_in _ (by omega)
  have w4 : IntKind.i64.wrap (40 + 10 * (n * k + n)) = 40 + 10 * (n * k + n) := IntWalk.i64_in _ (by omega)
  have hres : Hid (roundsS r s = 40 + 10 * (n * k + n)) := by unfold Hid roundsS; rw [← hn, ← hk]
  have HN := hide hn
  have HK := hide hk
  clear hn hk
  go_enter Tryd.func14, Tryd.ntmps14
  go_wp2_with fail
  go_ret
  have e : ∀ x, IntKind.i64.wrap x = wrap64 x := IntWalk.i64_left
  simp only [e] at w1 w2 w3 w4
  exact ⟨ret_int (by rw [← HN.out, ← HK.out, hres.out, w1, w2, w3, w4]), rfl⟩

/-- A plan of which only the tries, the end, the first step and the least one are not zero. -/
def RdP (w : World) (v : Value) (t : Int) (e h l : Dy) : Prop :=
  ∃ A n c B m d C o f, v = .agg #[.int .i64 0, .int .i64 t, .int .i64 0, .int .i64 0, .bool e.neg, .slice A n c, .int .i64 e.e, .bool h.neg, .slice B m d, .int .i64 h.e, .bool l.neg, .slice C o f, .int .i64 l.e,
      .bool false, .slice none 0 0, .int .i64 0, .slice none 0 0, .slice none 0 0, .slice none 0 0, .slice none 0 0, .slice none 0 0, .slice none 0 0]
    ∧ RdD w (.agg #[.bool e.neg, .slice A n c, .int .i64 e.e]) e ∧ RdD w (.agg #[.bool h.neg, .slice B m d, .int .i64 h.e]) h ∧ RdD w (.agg #[.bool l.neg, .slice C o f, .int .i64 l.e]) l
/-- The number after k halvings may go on. -/
def goodH (h l : Dy) (i : Nat) : Prop := -1048576 ≤ h.e - i ∧ 0 ≤ cmpD ⟨h.neg, h.m, h.e - i⟩ l
theorem good_succ (h l : Dy) (K : Nat) : goodH h l (K + 1) ↔ -1048576 ≤ h.e - (K : Int) - 1 ∧ 0 ≤ cmpD ⟨h.neg, h.m, h.e - (K : Int) - 1⟩ l := by
  unfold goodH
  rw [show h.e - ((K + 1 : Nat) : Int) = h.e - (K : Int) - 1 by omega]
/-- bound.Attempts. -/
def AttPost (t : Int) (e h l : Dy) (r : Int) : Prop :=
  if signD e ≤ 0 ∨ signD h ≤ 0 ∨ signD l ≤ 0 ∨ 0 < cmpD l h ∨ t < 1 ∨ 20 < t then r = 0
  else ∃ K : Nat, r = min (t * (K + 1)) 1000000 ∧ (∀ i : Nat, 1 ≤ i → i ≤ K → goodH h l i ∧ t * i < 1000000) ∧ (¬ goodH h l (K + 1) ∨ 1000000 ≤ t * (K + 1))
set_option maxRecDepth 100000 in
set_option maxHeartbeats 4000000 in
theorem attempts_any (t : Int) (v : Value) (e h l : Dy) (w : World) (hp : RdP w v t e h l) (hT : TabAt w) :
    Calls Tryd.prog 16 #[v] w fun x w' => ∃ r, x = .returned (.int .i64 r) ∧ AttPost t e h l r ∧ Below w.heap.size w w' := by
  obtain ⟨A, n, c, B, m, d, C, o, f, rfl, he, hh, hl⟩ := hp
  obtain ⟨W, hW⟩ : ∃ W, W = ((w.alloc (.cells #[.int .i64 0, .int .i64 t, .int .i64 0, .int .i64 0, .bool e.neg, .slice A n c, .int .i64 e.e, .bool h.neg, .slice B m d, .int .i64 h.e, .bool l.neg, .slice C o f, .int .i64 l.e, .bool false, .slice none 0 0, .int .i64 0, .slice none 0 0, .slice none 0 0, .slice none 0 0, .slice none 0 0, .slice none 0 0, .slice none 0 0] 31)).alloc (.cells #[.bool e.neg, .slice A n c, .int .i64 e.e, .bool h.neg, .slice B m d, .int .i64 h.e, .bool l.neg, .slice C o f, .int .i64 l.e] 24)) := ⟨_, rfl⟩
  have hb0 : Below w.heap.size w W := by rw [hW]; go_grown
  have hsz : w.heap.size + 1 < W.heap.size := by rw [hW]; simp
  have c0_1 : W.cell? ⟨w.heap.size, 1, none⟩ = some (.int .i64 t) := by rw [hW]; simp [go_sem]
  have c0_7 : W.cell? ⟨w.heap.size, 7, none⟩ = some (.bool h.neg) := by rw [hW]; simp [go_sem]
  have c0_8 : W.cell? ⟨w.heap.size, 8, none⟩ = some (.slice B m d) := by rw [hW]; simp [go_sem]
  have c0_9 : W.cell? ⟨w.heap.size, 9, none⟩ = some (.int .i64 h.e) := by rw [hW]; simp [go_sem]
  have c0_10 : W.cell? ⟨w.heap.size, 10, none⟩ = some (.bool l.neg) := by rw [hW]; simp [go_sem]
  have c0_11 : W.cell? ⟨w.heap.size, 11, none⟩ = some (.slice C o f) := by rw [hW]; simp [go_sem]
  have c0_12 : W.cell? ⟨w.heap.size, 12, none⟩ = some (.int .i64 l.e) := by rw [hW]; simp [go_sem]
  have c1_0 : W.cell? ⟨w.heap.size + 1, 0, none⟩ = some (.bool e.neg) := by rw [hW]; simp [go_sem]
  have c1_1 : W.cell? ⟨w.heap.size + 1, 1, none⟩ = some (.slice A n c) := by rw [hW]; simp [go_sem]
  have c1_2 : W.cell? ⟨w.heap.size + 1, 2, none⟩ = some (.int .i64 e.e) := by rw [hW]; simp [go_sem]
  have c1_3 : W.cell? ⟨w.heap.size + 1, 3, none⟩ = some (.bool h.neg) := by rw [hW]; simp [go_sem]
  have c1_4 : W.cell? ⟨w.heap.size + 1, 4, none⟩ = some (.slice B m d) := by rw [hW]; simp [go_sem]
  have c1_5 : W.cell? ⟨w.heap.size + 1, 5, none⟩ = some (.int .i64 h.e) := by rw [hW]; simp [go_sem]
  have c1_6 : W.cell? ⟨w.heap.size + 1, 6, none⟩ = some (.bool l.neg) := by rw [hW]; simp [go_sem]
  have c1_7 : W.cell? ⟨w.heap.size + 1, 7, none⟩ = some (.slice C o f) := by rw [hW]; simp [go_sem]
  have c1_8 : W.cell? ⟨w.heap.size + 1, 8, none⟩ = some (.int .i64 l.e) := by rw [hW]; simp [go_sem]
  have hee := he.below hb0
  have hhh := hh.below hb0
  have hll := hl.below hb0
  have HT := hide (hT.below hb0)
  go_enter Tryd.func16, Tryd.ntmps16
  go_wp2_with fail
  go_step3
  go_wp2_with fail
  rw [← hW]
  clear hW
  go_loopw [16] (fun i wr => ∃ k : Nat, k ≤ 3 ∧ i = .int .i64 (k : Int) ∧ Hid (0 < k → 0 < signD e) ∧ Hid (1 < k → 0 < signD h) ∧ Hid (2 < k → 0 < signD l) ∧ Below W.heap.size W wr) (fun i _ => 3 - (intOf i).toNat)
  case atStart => exact ⟨0, by omega, rfl, fun h => by omega, fun h => by omega, fun h => by omega, Below.refl _ _⟩
  case round =>
    obtain ⟨k, hk, rfl, h1, h2, h3, hbw⟩ := hrel
    have hsq : w.heap.size + 1 < wr.heap.size := Nat.lt_of_lt_of_le hsz hbw.size
    have d0_1 := (hbw.cell (p := ⟨w.heap.size, 1, none⟩) (by simp <;> omega)).trans c0_1
    have d0_7 := (hbw.cell (p := ⟨w.heap.size, 7, none⟩) (by simp <;> omega)).trans c0_7
    have d0_8 := (hbw.cell (p := ⟨w.heap.size, 8, none⟩) (by simp <;> omega)).trans c0_8
    have d0_9 := (hbw.cell (p := ⟨w.heap.size, 9, none⟩) (by simp <;> omega)).trans c0_9
    have d0_10 := (hbw.cell (p := ⟨w.heap.size, 10, none⟩) (by simp <;> omega)).trans c0_10
    have d0_11 := (hbw.cell (p := ⟨w.heap.size, 11, none⟩) (by simp <;> omega)).trans c0_11
    have d0_12 := (hbw.cell (p := ⟨w.heap.size, 12, none⟩) (by simp <;> omega)).trans c0_12
    have d1_0 := (hbw.cell (p := ⟨w.heap.size + 1, 0, none⟩) (by simp <;> omega)).trans c1_0
    have d1_1 := (hbw.cell (p := ⟨w.heap.size + 1, 1, none⟩) (by simp <;> omega)).trans c1_1
    have d1_2 := (hbw.cell (p := ⟨w.heap.size + 1, 2, none⟩) (by simp <;> omega)).trans c1_2
    have d1_3 := (hbw.cell (p := ⟨w.heap.size + 1, 3, none⟩) (by simp <;> omega)).trans c1_3
    have d1_4 := (hbw.cell (p := ⟨w.heap.size + 1, 4, none⟩) (by simp <;> omega)).trans c1_4
    have d1_5 := (hbw.cell (p := ⟨w.heap.size + 1, 5, none⟩) (by simp <;> omega)).trans c1_5
    have d1_6 := (hbw.cell (p := ⟨w.heap.size + 1, 6, none⟩) (by simp <;> omega)).trans c1_6
    have d1_7 := (hbw.cell (p := ⟨w.heap.size + 1, 7, none⟩) (by simp <;> omega)).trans c1_7
    have d1_8 := (hbw.cell (p := ⟨w.heap.size + 1, 8, none⟩) (by simp <;> omega)).trans c1_8
    have dee := hee.below hbw
    have dhh := hhh.below hbw
    have dll := hll.below hbw
    have HT := hide (HT.out.below hbw)
    clear c0_1 c0_7 c0_8 c0_9 c0_10 c0_11 c0_12 c1_0 c1_1 c1_2 c1_3 c1_4 c1_5 c1_6 c1_7 c1_8
    have hk3 : k = 0 ∨ k = 1 ∨ k = 2 ∨ k = 3 := by omega
    rcases hk3 with rfl | rfl | rfl | rfl
    · have hbx : Below wr.heap.size wr (wr.alloc (.cells #[.bool e.neg, .slice A n c, .int .i64 e.e] 24)) := by go_grown
      go_wp2_with fail
      refine (signD_any _ e _ (dee.below hbx)).mono ?_
      rintro e1 w2 ⟨rfl, hb2⟩
      by_cases hs : signD e ≤ 0
      · have g1 : decide (signD e ≤ 0) = true := by simpa using hs
        have hres : Hid (AttPost t e h l 0) := by unfold Hid AttPost; rw [if_pos (.inl hs)]
        clear hs
        go_wp2_with fail
        try rw [Exit.noGoto_ret]
        go_ret
        exact ⟨0, rfl, hres.out, below_then hb0 (below_then hbw (below_then hbx hb2))⟩
      · have g1 : decide (signD e ≤ 0) = false := by simpa using hs
        have hpos := hide (Int.not_le.1 hs)
        clear hs
        go_wp2_with fail
        go_roundw
        case measure => simp [intOf]
        case rel => exact ⟨1, by omega, rfl, fun _ => hpos.out, fun _ => by omega, fun _ => by omega, below_then hbw (below_then hbx hb2)⟩
    · have hbx : Below wr.heap.size wr (wr.alloc (.cells #[.bool h.neg, .slice B m d, .int .i64 h.e] 24)) := by go_grown
      go_wp2_with fail
      refine (signD_any _ h _ (dhh.below hbx)).mono ?_
      rintro e1 w2 ⟨rfl, hb2⟩
      by_cases hs : signD h ≤ 0
      · have g1 : decide (signD h ≤ 0) = true := by simpa using hs
        have hres : Hid (AttPost t e h l 0) := by unfold Hid AttPost; rw [if_pos (.inr (.inl hs))]
        clear hs
        go_wp2_with fail
        try rw [Exit.noGoto_ret]
        go_ret
        exact ⟨0, rfl, hres.out, below_then hb0 (below_then hbw (below_then hbx hb2))⟩
      · have g1 : decide (signD h ≤ 0) = false := by simpa using hs
        have hpos := hide (Int.not_le.1 hs)
        clear hs
        go_wp2_with fail
        go_roundw
        case measure => simp [intOf]
        case rel => exact ⟨2, by omega, rfl, fun _ => h1.out (by omega), fun _ => hpos.out, fun _ => by omega, below_then hbw (below_then hbx hb2)⟩
    · have hbx : Below wr.heap.size wr (wr.alloc (.cells #[.bool l.neg, .slice C o f, .int .i64 l.e] 24)) := by go_grown
      go_wp2_with fail
      refine (signD_any _ l _ (dll.below hbx)).mono ?_
      rintro e1 w2 ⟨rfl, hb2⟩
      by_cases hs : signD l ≤ 0
      · have g1 : decide (signD l ≤ 0) = true := by simpa using hs
        have hres : Hid (AttPost t e h l 0) := by unfold Hid AttPost; rw [if_pos (.inr (.inr (.inl hs)))]
        clear hs
        go_wp2_with fail
        try rw [Exit.noGoto_ret]
        go_ret
        exact ⟨0, rfl, hres.out, below_then hb0 (below_then hbw (below_then hbx hb2))⟩
      · have g1 : decide (signD l ≤ 0) = false := by simpa using hs
        have hpos := hide (Int.not_le.1 hs)
        clear hs
        go_wp2_with fail
        go_roundw
        case measure => simp [intOf]
        case rel => exact ⟨3, by omega, rfl, fun _ => h1.out (by omega), fun _ => h2.out (by omega), fun _ => hpos.out, below_then hbw (below_then hbx hb2)⟩
    · have p1 := h1.out (by omega)
      have p2 := h2.out (by omega)
      have p3 := h3.out (by omega)
      clear h1 h2 h3
      have hsq' : w.heap.size < wr.heap.size := Nat.lt_of_succ_lt hsq
      clear d1_0 d1_1 d1_2 d1_3 d1_4 d1_5 d1_6 d1_7 d1_8 hll hhh hee dee he hh hl
      go_wp2_with fail
      refine (cmpD_any _ _ l h _ dll dhh).mono ?_
      rintro e1 w2 ⟨rfl, hb2⟩
      have hs2 : w.heap.size < w2.heap.size := Nat.lt_of_lt_of_le hsq' hb2.size
      have HT := hide (HT.out.below hb2)
      have ell := dll.below hb2
      have ehh := dhh.below hb2
      have e0_1 := (hb2.cell (p := ⟨w.heap.size, 1, none⟩) hsq').trans d0_1
      have e0_7 := (hb2.cell (p := ⟨w.heap.size, 7, none⟩) hsq').trans d0_7
      have e0_8 := (hb2.cell (p := ⟨w.heap.size, 8, none⟩) hsq').trans d0_8
      have e0_9 := (hb2.cell (p := ⟨w.heap.size, 9, none⟩) hsq').trans d0_9
      have e0_10 := (hb2.cell (p := ⟨w.heap.size, 10, none⟩) hsq').trans d0_10
      have e0_11 := (hb2.cell (p := ⟨w.heap.size, 11, none⟩) hsq').trans d0_11
      have e0_12 := (hb2.cell (p := ⟨w.heap.size, 12, none⟩) hsq').trans d0_12
      clear d0_1 d0_7 d0_8 d0_9 d0_10 d0_11 d0_12 dll dhh
      have hbz := below_then hb0 (below_then hbw hb2)
      by_cases q1 : 0 < cmpD l h
      · skip
        have g1 : decide (0 < cmpD l h) = true := by simpa using q1
        clear HT ell ehh
        have hres : Hid (AttPost t e h l 0) := by unfold Hid AttPost; rw [if_pos (.inr (.inr (.inr (.inl q1))))]
        go_wp2_with fail
        try rw [Exit.noGoto_ret]
        go_ret
        exact ⟨0, rfl, hres.out, hbz⟩
      · have g1 : decide (0 < cmpD l h) = false := by simpa using q1
        by_cases q2 : t < 1
        · skip
          have g2 : decide (t < 1) = true := by simpa using q2
          clear HT ell ehh
          have hres : Hid (AttPost t e h l 0) := by unfold Hid AttPost; rw [if_pos (.inr (.inr (.inr (.inr (.inl q2)))))]
          go_wp2_with fail
          try rw [Exit.noGoto_ret]
          go_ret
          exact ⟨0, rfl, hres.out, hbz⟩
        · have g2 : decide (t < 1) = false := by simpa using q2
          by_cases q3 : 20 < t
          · skip
            have g3 : decide (20 < t) = true := by simpa using q3
            clear HT ell ehh
            have hres : Hid (AttPost t e h l 0) := by unfold Hid AttPost; rw [if_pos (.inr (.inr (.inr (.inr (.inr q3)))))]
            go_wp2_with fail
            try rw [Exit.noGoto_ret]
            go_ret
            exact ⟨0, rfl, hres.out, hbz⟩
          · have g3 : decide (20 < t) = false := by simpa using q3
            have HR : Hid (∀ r, (∃ K : Nat, r = min (t * (K + 1)) 1000000 ∧ (∀ i : Nat, 1 ≤ i → i ≤ K → goodH h l i ∧ t * i < 1000000) ∧ (¬ goodH h l (K + 1) ∨ 1000000 ≤ t * (K + 1))) → AttPost t e h l r) := by
              intro r hr
              unfold AttPost
              rw [if_neg (by omega)]
              exact hr
            obtain ⟨hmd, hm0, hng⟩ := signD_pos p2
            have hlm : Lim BB h.m := by obtain ⟨_, _, _, _, _, hlm, _⟩ := ehh; exact hlm
            obtain ⟨_, _, hE1, hE2⟩ := mayD_limbs hmd
            have ht1 : 1 ≤ t ∧ t ≤ 20 := by omega
            have HM0 := hide hm0
            have HMD := hide hmd
            clear q1 q2 q3 p1 p2 p3 hm0 hng hmd
            go_wp2_with fail
            go_step3
            go_wp2_with fail
            have hbox : BoxDy (w2.alloc (.cells #[.bool h.neg, .slice B m d, .int .i64 h.e] 24)) w2.heap.size h B m d := BoxDy.new ehh
            have hbx2 : Below w2.heap.size w2 (w2.alloc (.cells #[.bool h.neg, .slice B m d, .int .i64 h.e] 24)) := by go_grown
            clear ehh
            go_loopw [5, 7] (fun a b wr => ∃ (K : Nat) (A' : Option Addr) (n' c' : Nat), a = .int .i64 (t * ((K : Int) + 1)) ∧ b = .int .i64 0 ∧ Hid (∀ i : Nat, 1 ≤ i → i ≤ K → goodH h l i ∧ t * i < 1000000) ∧ Hid (t * (K : Int) < 1000000) ∧ Hid (-1048576 ≤ h.e - (K : Int)) ∧
              BoxDy wr w2.heap.size ⟨h.neg, h.m, h.e - (K : Int)⟩ A' n' c' ∧ Below w2.heap.size w2 wr) (fun a _ _ => 2000000 - (intOf a).toNat)
            case atStart => exact ⟨0, B, m, d, by simp, rfl, fun i h1 h2 => by omega, by unfold Hid; simp, by unfold Hid; omega, by simpa using hbox, hbx2⟩
            case round =>
              obtain ⟨K, A', n', c', rfl, rfl, hall, htk, hlo, hbx, hbw3⟩ := hrel
              have x0 := hbx.c0
              have x1 := hbx.c1
              have x2 := hbx.c2
              have xr := hbx.rd
              simp only at x0 x1 x2 xr
              obtain ⟨N, hN⟩ : ∃ N : Int, N = t * ((K : Int) + 1) := ⟨_, rfl⟩
              have hN2 : N = t * (K : Int) + t := by rw [hN, Int.mul_add, Int.mul_one]
              have HN := hide hN
              have hNb : 0 ≤ N ∧ N ≤ 1000020 := by
                have := Int.mul_nonneg (show 0 ≤ t by omega) (Int.natCast_nonneg K)
                have := htk.out
                omega
              rw [← hN]
              clear hN hN2
              have HTr := hide (HT.out.below hbw3)
              by_cases hn : N < 1000000
              · have g4 : decide (N < 1000000) = true := by simpa using hn
                have hmk : mayD ⟨h.neg, h.m, h.e - (K : Int)⟩ = true := mayD_half HMD.out HM0.out hlo.out (by omega)
                have hsh := shift_half (d := ⟨h.neg, h.m, h.e - (K : Int)⟩) hmk HM0.out hlm
                simp only at hsh
                have HSH := hide hsh
                have HMK := hide hmk
                clear hsh hmk
                go_wp2_with fail
                by_cases hlo2 : -1048576 ≤ h.e - (K : Int) - 1
                · refine (shift_any _ ⟨h.neg, h.m, h.e - (K : Int)⟩ (-1) _ xr HTr.out).mono ?_
                  rw [HSH.out, if_pos hlo2]
                  rintro e1 w4 ⟨hb4, v, rfl, hv⟩
                  have hb5 := hbx.below hb4
                  obtain ⟨A2, n2, c2, rfl, hv1, hv2, hv3⟩ := hv
                  have hst := hb5.store (d' := ⟨h.neg, h.m, h.e - (K : Int) - 1⟩) ⟨_, _, _, rfl, hv1, hv2, hv3⟩
                  have y0 := hb5.c0
                  have y1 := hb5.c1
                  have y2 := hb5.c2
                  have f0 := hb5.fr 0
                  have f1 := hb5.fr 1
                  have f2 := hb5.fr 2
                  have hbw5 : Below w2.heap.size w2 (((w4.setCell ⟨w2.heap.size, 0, none⟩ (.bool h.neg)).setCell ⟨w2.heap.size, 1, none⟩ (.slice A2 n2 c2)).setCell ⟨w2.heap.size, 2, none⟩ (.int .i64 (h.e - (K : Int) - 1))) :=
                    (((below_then hbw3 hb4).setCell (Nat.le_refl _) _).setCell (Nat.le_refl _) _).setCell (Nat.le_refl _) _
                  simp only at hst y0 y1 y2
                  clear hv1 hv2 hv3 x0 x1 x2 xr
                  go_upto_region 14 with fail
                  obtain ⟨w5, hw5⟩ : ∃ w5, w5 = (((w4.setCell ⟨w2.heap.size, 0, none⟩ (.bool h.neg)).setCell ⟨w2.heap.size, 1, none⟩ (.slice A2 n2 c2)).setCell ⟨w2.heap.size, 2, none⟩ (.int .i64 (h.e - (K : Int) - 1))) := ⟨_, rfl⟩
                  rw [← hw5] at hst hbw5 ⊢
                  clear hw5 y0 y1 y2 f0 f1 f2 hb5 hb4
                  have z0_1 := (hbw5.cell (p := ⟨w.heap.size, 1, none⟩) hs2).trans e0_1
                  have z0_10 := (hbw5.cell (p := ⟨w.heap.size, 10, none⟩) hs2).trans e0_10
                  have z0_11 := (hbw5.cell (p := ⟨w.heap.size, 11, none⟩) hs2).trans e0_11
                  have z0_12 := (hbw5.cell (p := ⟨w.heap.size, 12, none⟩) hs2).trans e0_12
                  have zll := ell.below hbw5
                  have y0 := hst.c0
                  have y1 := hst.c1
                  have y2 := hst.c2
                  have yr := hst.rd
                  simp only at y0 y1 y2 yr
                  clear e0_1 e0_7 e0_8 e0_9 e0_10 e0_11 e0_12
                  go_wp2_with fail
                  refine (cmpD_any _ _ ⟨h.neg, h.m, h.e - (K : Int) - 1⟩ l _ yr zll).mono ?_
                  rintro e1 w6 ⟨rfl, hb6⟩
                  have hst := hst.below hb6
                  have hbw6 := below_then hbw5 hb6
                  have v0_1 := (hbw6.cell (p := ⟨w.heap.size, 1, none⟩) hs2).trans ((hbw5.cell (p := ⟨w.heap.size, 1, none⟩) hs2).symm.trans z0_1)
                  clear z0_1 z0_10 z0_11 z0_12 zll yr y0 y1 y2
                  obtain ⟨cc, hcc⟩ : ∃ cc, cc = cmpD ⟨h.neg, h.m, h.e - (K : Int) - 1⟩ l := ⟨_, rfl⟩
                  have HCC := hide hcc
                  rw [← hcc]
                  clear hcc
                  by_cases hq : cc < 0
                  · have g5 : decide (cc < 0) = true := by simpa using hq
                    go_wp2_with fail
                    rw [Exit.noGoto_ret]
                    go_ret
                    exact ⟨_, rfl, HR.out _ ⟨K, by rw [← HN.out], hall.out, .inl fun hg => by have := ((good_succ h l K).1 hg).2; rw [← HCC.out] at this; omega⟩, below_then hbz hbw6⟩
                  · have g5 : decide (cc < 0) = false := by simpa using hq
                    have HG := hide ((good_succ h l K).2 ⟨hlo2, by rw [← HCC.out]; omega⟩)
                    have hNK : N = t * ((K + 1 : Nat) : Int) := by rw [HN.out, show ((K + 1 : Nat) : Int) = (K : Int) + 1 by omega]
                    have HNK := hide hNK
                    clear hNK
                    go_wp2_with fail
                    refine ⟨⟨K + 1, A2, n2, c2, ?_, rfl, ?_, ?_, ?_, ?_, hbw6⟩, ?_⟩
                    · rw [Int.mul_add, Int.mul_one, ← HNK.out]
                    · intro i hi1 hi2
                      rcases Nat.lt_or_ge K i with hlt | hge
                      · obtain rfl : i = K + 1 := by omega
                        exact ⟨HG.out, by rw [← HNK.out]; exact hn⟩
                      · exact hall.out i hi1 hge
                    · exact hide (by rw [← HNK.out]; exact hn)
                    · exact hide (by omega)
                    · rw [show h.e - ((K + 1 : Nat) : Int) = h.e - (K : Int) - 1 by omega]
                      exact hst
                    · simp only [intOf]
                      omega
                · refine (shift_any _ ⟨h.neg, h.m, h.e - (K : Int)⟩ (-1) _ xr HTr.out).mono ?_
                  rw [HSH.out, if_neg hlo2]
                  rintro e1 w4 ⟨hb4, v, rfl, hv⟩
                  have hb5 := hbx.below hb4
                  obtain ⟨A2, n2, c2, rfl, hv1, hv2, hv3⟩ := hv
                  have y0 := hb5.c0
                  have y1 := hb5.c1
                  have y2 := hb5.c2
                  have f0 := hb5.fr 0
                  have f1 := hb5.fr 1
                  have f2 := hb5.fr 2
                  have hbw5 : Below w2.heap.size w2 (((w4.setCell ⟨w2.heap.size, 0, none⟩ (.bool Dy.zero.neg)).setCell ⟨w2.heap.size, 1, none⟩ (.slice A2 n2 c2)).setCell ⟨w2.heap.size, 2, none⟩ (.int .i64 Dy.zero.e)) :=
                    (((below_then hbw3 hb4).setCell (Nat.le_refl _) _).setCell (Nat.le_refl _) _).setCell (Nat.le_refl _) _
                  have HG : Hid (¬ goodH h l (K + 1)) := fun hg => hlo2 ((good_succ h l K).1 hg).1
                  simp only at y0 y1 y2
                  clear hv1 hv2 hv3 x0 x1 x2 xr hlo2
                  go_wp2_with fail
                  rw [Exit.noGoto_ret]
                  go_ret
                  exact ⟨_, rfl, HR.out _ ⟨K, by rw [← HN.out], hall.out, .inl HG.out⟩, below_then hbz hbw5⟩
              · have g4 : decide (N < 1000000) = false := by simpa using hn
                go_wp2_with fail
                go_ret
                exact ⟨_, rfl, HR.out _ ⟨K, by rw [← HN.out], hall.out, .inr (by rw [← HN.out]; omega)⟩, below_then hbz hbw3⟩
end Go.Proofs.YtdnknokhcliikaaDoor
