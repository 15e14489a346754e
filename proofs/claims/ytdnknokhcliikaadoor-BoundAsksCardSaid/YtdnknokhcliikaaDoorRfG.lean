/- Contracts of the document's answer sluicewayref21: Rounds, Attempts. -/
import Derived.Test.YtdnknokhcliikaaDoorRfF
import Derived.Test.YtdnknokhcliikaaDoorBdA
namespace Go.Proofs.YtdnknokhcliikaaDoor
open Go.RowKit Pl

theorem rrounds_any (r s : Int) (w : World) :
    Calls Tryd.prog 15 #[.int .i64 r, .int .i64 s] w fun e w' => e = .returned (.int .i64 (roundsS r s)) ∧ w = w' := by
  obtain ⟨n, hn⟩ : ∃ n, n = min (max r 0) 100000 := ⟨_, rfl⟩
  obtain ⟨k, hk⟩ : ∃ k, k = min (max s 0) 16 := ⟨_, rfl⟩
  have n0 : 0 ≤ n ∧ n ≤ 100000 := by omega
  have k0 : 0 ≤ k ∧ k ≤ 16 := by omega
  have m0 : 0 ≤ n * k := Int.mul_nonneg n0.1 k0.1
  have m1 : n * k ≤ 100000 * 16 := Int.mul_le_mul n0.2 k0.2 k0.1 (by omega)
  have w1 : IntKind.i64.wrap (n * k) = n * k := IntWalk.i64_in _ (by omega)
  have w2 : IntKind.i64.wrap (n * k + n) = n * k + n := IntWalk.i64_in _ (by omega)
  have w3 : IntKind.i64.wrap (10 * (n * k + n)) = 10 * (n * k + n) := IntWalk.i64_in _ (by omega)
  have w4 : IntKind.i64.wrap (40 + 10 * (n * k + n)) = 40 + 10 * (n * k + n) := IntWalk.i64_in _ (by omega)
  have hres : Hid (roundsS r s = 40 + 10 * (n * k + n)) := by unfold Hid roundsS; rw [← hn, ← hk]
  have HN := hide hn
  have HK := hide hk
  clear hn hk
  go_enter Tryd.func15, Tryd.ntmps15
  go_wp2_with fail
  go_ret
  have e : ∀ x, IntKind.i64.wrap x = wrap64 x := IntWalk.i64_left
  simp only [e] at w1 w2 w3 w4
  exact ⟨ret_int (by rw [← HN.out, ← HK.out, hres.out, w1, w2, w3, w4]), rfl⟩

theorem cmpN_anti (m n : Nat) : cmpN m n = - cmpN n m := by
  unfold cmpN
  split <;> split <;> simp <;> omega
theorem cmpSize_anti (a b : Dy) : cmpSize a b = - cmpSize b a := by
  unfold cmpSize
  rw [Int.min_comm b.e a.e, cmpN_anti]
  split <;> split <;> simp <;> omega
theorem cmpD_anti (a b : Dy) : cmpD a b = - cmpD b a := by
  unfold cmpD
  by_cases h1 : mayD a = false ∨ mayD b = false
  · rw [if_pos h1, if_pos (Or.comm.1 h1)]; rfl
  · rw [if_neg h1, if_neg (fun h => h1 (Or.comm.1 h))]
    by_cases h2 : signD a < signD b
    · rw [if_pos h2, if_neg (show ¬ signD b < signD a by omega), if_pos h2]
    · rw [if_neg h2]
      by_cases h3 : signD b < signD a
      · rw [if_pos h3, if_pos h3]; rfl
      · rw [if_neg h3, if_neg h3, if_neg h2]
        have h4 : signD a = signD b := by omega
        rw [h4]
        by_cases h5 : signD b = 0
        · rw [if_pos h5, if_pos h5]; rfl
        · rw [if_neg h5, if_neg h5, cmpSize_anti, Int.mul_neg]

set_option maxRecDepth 100000 in
set_option maxHeartbeats 4000000 in
theorem rattempts_any (t : Int) (v : Value) (e h l : Dy) (w : World) (hp : RdP w v t e h l) :
    Calls Tryd.prog 17 #[v] w fun x w' => ∃ r, x = .returned (.int .i64 r) ∧ AttPost t e h l r ∧ Below w.heap.size w w' := by
  obtain ⟨A, n, c, B, m, d, C, o, f, rfl, he, hh, hl⟩ := hp
  obtain ⟨hP, hb0⟩ := box_1 w [.int .i64 0, .int .i64 t, .int .i64 0, .int .i64 0, .bool e.neg, .slice A n c, .int .i64 e.e, .bool h.neg, .slice B m d, .int .i64 h.e, .bool l.neg, .slice C o f, .int .i64 l.e, .bool false, .slice none 0 0, .int .i64 0, .slice none 0 0, .slice none 0 0, .slice none 0 0, .slice none 0 0, .slice none 0 0, .slice none 0 0] 31
  go_enter Tryd.func17, Tryd.ntmps17
  go_upto_region 1 with fail
  generalize (w.alloc (.cells #[.int .i64 0, .int .i64 t, .int .i64 0, .int .i64 0, .bool e.neg, .slice A n c, .int .i64 e.e, .bool h.neg, .slice B m d, .int .i64 h.e, .bool l.neg, .slice C o f, .int .i64 l.e, .bool false, .slice none 0 0, .int .i64 0, .slice none 0 0, .slice none 0 0, .slice none 0 0, .slice none 0 0, .slice none 0 0, .slice none 0 0] 31)) = W at *
  have ee := he.below hb0
  have eh := hh.below hb0
  have el := hl.below hb0
  clear he hh hl
  have p1 := hP.cell 1 rfl
  have p4 := hP.cell 4 rfl
  have p5 := hP.cell 5 rfl
  have p6 := hP.cell 6 rfl
  have p7 := hP.cell 7 rfl
  have p8 := hP.cell 8 rfl
  have p9 := hP.cell 9 rfl
  have p10 := hP.cell 10 rfl
  have p11 := hP.cell 11 rfl
  have p12 := hP.cell 12 rfl
  go_wp2_with fail
  refine (rsignD_any (.agg #[.bool e.neg, .slice A n c, .int .i64 e.e]) e _ ee).mono ?_
  rintro x w1 ⟨rfl, hb⟩
  have hP := hP.keep hb
  have ee := ee.below hb
  have eh := eh.below hb
  have el := el.below hb
  have hb0 := below_then hb0 hb
  clear hb p1 p4 p5 p6 p7 p8 p9 p10 p11 p12
  have p1 := hP.cell 1 rfl
  have p4 := hP.cell 4 rfl
  have p5 := hP.cell 5 rfl
  have p6 := hP.cell 6 rfl
  have p7 := hP.cell 7 rfl
  have p8 := hP.cell 8 rfl
  have p9 := hP.cell 9 rfl
  have p10 := hP.cell 10 rfl
  have p11 := hP.cell 11 rfl
  have p12 := hP.cell 12 rfl
  by_cases q1 : signD e ≤ 0
  · have g1 : decide (signD e ≤ 0) = true := by simpa using q1
    have hres : Hid (AttPost t e h l 0) := by unfold Hid AttPost; rw [if_pos (.inl q1)]
    go_wp2
    go_ret
    exact ⟨0, rfl, hres.out, hb0⟩
  · have g1 : decide (signD e ≤ 0) = false := by simpa using q1
    go_wp2_with fail
    refine (rsignD_any (.agg #[.bool h.neg, .slice B m d, .int .i64 h.e]) h _ eh).mono ?_
    rintro x w2 ⟨rfl, hb⟩
    have hP := hP.keep hb
    have ee := ee.below hb
    have eh := eh.below hb
    have el := el.below hb
    have hb0 := below_then hb0 hb
    clear hb p1 p4 p5 p6 p7 p8 p9 p10 p11 p12
    have p1 := hP.cell 1 rfl
    have p4 := hP.cell 4 rfl
    have p5 := hP.cell 5 rfl
    have p6 := hP.cell 6 rfl
    have p7 := hP.cell 7 rfl
    have p8 := hP.cell 8 rfl
    have p9 := hP.cell 9 rfl
    have p10 := hP.cell 10 rfl
    have p11 := hP.cell 11 rfl
    have p12 := hP.cell 12 rfl
    by_cases q2 : signD h ≤ 0
    · have g2 : decide (signD h ≤ 0) = true := by simpa using q2
      have hres : Hid (AttPost t e h l 0) := by unfold Hid AttPost; rw [if_pos (.inr (.inl q2))]
      go_wp2
      go_ret
      exact ⟨0, rfl, hres.out, hb0⟩
    · have g2 : decide (signD h ≤ 0) = false := by simpa using q2
      go_wp2_with fail
      refine (rsignD_any (.agg #[.bool l.neg, .slice C o f, .int .i64 l.e]) l _ el).mono ?_
      rintro x w3 ⟨rfl, hb⟩
      have hP := hP.keep hb
      have ee := ee.below hb
      have eh := eh.below hb
      have el := el.below hb
      have hb0 := below_then hb0 hb
      clear hb p1 p4 p5 p6 p7 p8 p9 p10 p11 p12
      have p1 := hP.cell 1 rfl
      have p4 := hP.cell 4 rfl
      have p5 := hP.cell 5 rfl
      have p6 := hP.cell 6 rfl
      have p7 := hP.cell 7 rfl
      have p8 := hP.cell 8 rfl
      have p9 := hP.cell 9 rfl
      have p10 := hP.cell 10 rfl
      have p11 := hP.cell 11 rfl
      have p12 := hP.cell 12 rfl
      by_cases q3 : signD l ≤ 0
      · have g3 : decide (signD l ≤ 0) = true := by simpa using q3
        have hres : Hid (AttPost t e h l 0) := by unfold Hid AttPost; rw [if_pos (.inr (.inr (.inl q3)))]
        go_wp2
        go_ret
        exact ⟨0, rfl, hres.out, hb0⟩
      · have g3 : decide (signD l ≤ 0) = false := by simpa using q3
        go_wp2_with fail
        refine (less_any (.agg #[.bool h.neg, .slice B m d, .int .i64 h.e]) (.agg #[.bool l.neg, .slice C o f, .int .i64 l.e]) h l _ eh el).mono ?_
        rintro x w4 ⟨rfl, hb⟩
        have hP := hP.keep hb
        have ee := ee.below hb
        have eh := eh.below hb
        have el := el.below hb
        have hb0 := below_then hb0 hb
        clear hb p1 p4 p5 p6 p7 p8 p9 p10 p11 p12
        have p1 := hP.cell 1 rfl
        have p4 := hP.cell 4 rfl
        have p5 := hP.cell 5 rfl
        have p6 := hP.cell 6 rfl
        have p7 := hP.cell 7 rfl
        have p8 := hP.cell 8 rfl
        have p9 := hP.cell 9 rfl
        have p10 := hP.cell 10 rfl
        have p11 := hP.cell 11 rfl
        have p12 := hP.cell 12 rfl
        by_cases q4 : cmpD h l < 0
        · have g4 : decide (cmpD h l < 0) = true := by simpa using q4
          have hres : Hid (AttPost t e h l 0) := by unfold Hid AttPost; rw [if_pos (.inr (.inr (.inr (.inl (by rw [cmpD_anti]; omega)))))]
          go_wp2
          go_ret
          exact ⟨0, rfl, hres.out, hb0⟩
        · have g4 : decide (cmpD h l < 0) = false := by simpa using q4
          by_cases q5 : t < 1
          · have g5 : decide (t < 1) = true := by simpa using q5
            have hres : Hid (AttPost t e h l 0) := by unfold Hid AttPost; rw [if_pos (.inr (.inr (.inr (.inr (.inl q5)))))]
            go_wp2
            go_ret
            exact ⟨0, rfl, hres.out, hb0⟩
          · have g5 : decide (t < 1) = false := by simpa using q5
            by_cases q6 : 20 < t
            · have g6 : decide (20 < t) = true := by simpa using q6
              have hres : Hid (AttPost t e h l 0) := by unfold Hid AttPost; rw [if_pos (.inr (.inr (.inr (.inr (.inr q6)))))]
              go_wp2
              go_ret
              exact ⟨0, rfl, hres.out, hb0⟩
            · have g6 : decide (20 < t) = false := by simpa using q6
              have HR : Hid (∀ r, (∃ K : Nat, r = min (t * (K + 1)) 1000000 ∧ (∀ i : Nat, 1 ≤ i → i ≤ K → goodH h l i ∧ t * i < 1000000) ∧ (¬ goodH h l (K + 1) ∨ 1000000 ≤ t * (K + 1))) → AttPost t e h l r) := by
                intro r hr
                unfold AttPost
                rw [if_neg (by rw [cmpD_anti]; omega)]
                exact hr
              obtain ⟨hmd, hm0, hng⟩ := signD_pos (show 0 < signD h by omega)
              have hlm : Lim BB h.m := by obtain ⟨_, _, _, _, _, hlm, _⟩ := eh; exact hlm
              obtain ⟨_, _, hE1, hE2⟩ := mayD_limbs hmd
              have ht1 : 1 ≤ t ∧ t ≤ 20 := by omega
              have HM0 := hide hm0
              have HMD := hide hmd
              clear q1 q2 q3 q4 q5 q6 hm0 hng hmd ee
              go_upto_region 5 with fail
              have hQ := Box.new w4 [.bool h.neg, .slice B m d, .int .i64 h.e] 24
              have hb5 : Below w4.heap.size w4 (w4.alloc (.cells #[.bool h.neg, .slice B m d, .int .i64 h.e] 24)) := by go_grown
              have eh5 := eh.below hb5
              clear eh p1 p4 p5 p6 p7 p8 p9 p10 p11 p12
              have hPl := hP.lt
              go_loopw [3, 4] (fun a p wr => ∃ (K : Nat) (A' : Option Addr) (n' c' g : Nat), a = .int .i64 ((K : Int) + 1) ∧ p = .pointer (some ⟨g, 0, none⟩) ∧ w4.heap.size ≤ g ∧ Hid (∀ i : Nat, 1 ≤ i → i ≤ K → goodH h l i ∧ t * i < 1000000) ∧ Hid (t * (K : Int) < 1000000) ∧ Hid (-1048576 ≤ h.e - (K : Int)) ∧
                Box wr g [.bool h.neg, .slice A' n' c', .int .i64 (h.e - (K : Int))] 24 ∧ RdD wr (.agg #[.bool h.neg, .slice A' n' c', .int .i64 (h.e - (K : Int))]) ⟨h.neg, h.m, h.e - (K : Int)⟩ ∧ Below w4.heap.size w4 wr) (fun a _ _ => 2000000 - (intOf a).toNat)
              case atStart => exact ⟨0, B, m, d, _, by simp, rfl, Nat.le_refl _, fun i h1 h2 => by omega, by unfold Hid; simp, by unfold Hid; omega, by simpa using hQ, by simpa using eh5, hb5⟩
              case round =>
                obtain ⟨K, A', n', c', g, rfl, rfl, hg, hall, htk, hlo, hbx, xr, hbw3⟩ := hrel
                have hKb : (K : Int) ≤ 1000000 := by
                  have h1 := htk.out
                  have h2 : 1 * (K : Int) ≤ t * (K : Int) := Int.mul_le_mul_of_nonneg_right (by omega) (by omega)
                  omega
                obtain ⟨N, hN⟩ : ∃ N : Int, N = t * ((K : Int) + 1) := ⟨_, rfl⟩
                have hN2 : N = t * (K : Int) + t := by rw [hN, Int.mul_add, Int.mul_one]
                have hNb : 0 ≤ N ∧ N ≤ 1000020 := by
                  have := Int.mul_nonneg (show 0 ≤ t by omega) (Int.natCast_nonneg K)
                  have := htk.out
                  omega
                have wN : IntKind.i64.wrap (((K : Int) + 1) * t) = N := by rw [Int.mul_comm, ← hN]; exact IntWalk.i64_in _ (by omega)
                have wN2 : wrap64 (((K : Int) + 1) * t) = N := by rw [← IntWalk.i64_left]; exact wN
                have HN := hide hN
                clear hN hN2 wN
                have hP3 := hP.below hbw3 hPl
                have el3 := el.below hbw3
                have p1 := hP3.cell 1 rfl
                have p10 := hP3.cell 10 rfl
                have p11 := hP3.cell 11 rfl
                have p12 := hP3.cell 12 rfl
                have x0 := hbx.cell 0 rfl
                have x1 := hbx.cell 1 rfl
                have x2 := hbx.cell 2 rfl
                have hbz := below_then hb0 (below_then (Below.refl _ _) hbw3)
                by_cases hn : N < 1000000
                · have g7 : decide (N < 1000000) = true := by simpa using hn
                  have hmk : mayD ⟨h.neg, h.m, h.e - (K : Int)⟩ = true := mayD_half HMD.out HM0.out hlo.out (by omega)
                  have hsh := shift_half (d := ⟨h.neg, h.m, h.e - (K : Int)⟩) hmk HM0.out hlm
                  simp only at hsh
                  have HSH := hide hsh
                  clear hsh hmk
                  go_wp2_with fail
                  refine (rshiftD_any _ ⟨h.neg, h.m, h.e - (K : Int)⟩ (-1) _ xr).mono ?_
                  rintro x w5 ⟨hb5', v, rfl, hv⟩
                  have hP5 := hP3.keep hb5'
                  have hbx5 := hbx.keep hb5'
                  have el5 := el3.below hb5'
                  have hbw5 := below_then hbw3 hb5'
                  have hbz5 := below_then hbz hb5'
                  clear p1 p10 p11 p12 x0 x1 x2 hb5'
                  by_cases hlo2 : -1048576 ≤ h.e - (K : Int) - 1
                  · rw [HSH.out, if_pos hlo2] at hv ⊢
                    obtain ⟨A2, n2, c2, rfl, hv1, hv2, hv3⟩ := hv
                    simp only at hv1
                    have hv6 : RdD w5 (.agg #[.bool h.neg, .slice A2 n2 c2, .int .i64 (h.e - (K : Int) - 1)]) ⟨h.neg, h.m, h.e - (K : Int) - 1⟩ := ⟨_, _, _, rfl, hv1, hlm, by show _ ≤ h.e - (K : Int) - 1; omega, by show h.e - (K : Int) - 1 ≤ _; omega⟩
                    have hX := Box.new w5 [.bool h.neg, .slice A2 n2 c2, .int .i64 (h.e - (K : Int) - 1)] 24
                    have hbX : Below w5.heap.size w5 (w5.alloc (.cells #[.bool h.neg, .slice A2 n2 c2, .int .i64 (h.e - (K : Int) - 1)] 24)) := by go_grown
                    go_upto_region 8 with fail
                    generalize (w5.alloc (.cells #[.bool h.neg, .slice A2 n2 c2, .int .i64 (h.e - (K : Int) - 1)] 24)) = w6 at *
                    have hP6 := hP5.keep hbX
                    have hbx6 := hbx5.keep hbX
                    have el6 := el5.below hbX
                    have hv7 := hv6.below hbX
                    have hbw6 := below_then hbw5 hbX
                    have hbz6 := below_then hbz5 hbX
                    have hgl := hbx5.lt
                    clear hP5 hbx5 el5 hv6 hbX hbw5 hbz5
                    have p10 := hP6.cell 10 rfl
                    have p11 := hP6.cell 11 rfl
                    have p12 := hP6.cell 12 rfl
                    have x0 := hX.cell 0 rfl
                    have x1 := hX.cell 1 rfl
                    have x2 := hX.cell 2 rfl
                    go_wp2_with fail
                    refine (less_any _ _ ⟨h.neg, h.m, h.e - (K : Int) - 1⟩ l _ hv7 el6).mono ?_
                    rintro x w7 ⟨rfl, hb7⟩
                    have hP7 := hP6.keep hb7
                    have hbx7 := hbx6.keep hb7
                    have hX7 := hX.keep hb7
                    have hv8 := hv7.below hb7
                    have hbw7 := below_then hbw6 hb7
                    have hbz7 := below_then hbz6 hb7
                    clear p10 p11 p12 x0 x1 x2 hP6 hbx6 el6 hX hv7 hbw6 hbz6 hb7
                    obtain ⟨cc, hcc⟩ : ∃ cc, cc = cmpD ⟨h.neg, h.m, h.e - (K : Int) - 1⟩ l := ⟨_, rfl⟩
                    have HCC := hide hcc
                    rw [← hcc]
                    clear hcc
                    have p1 := hP7.cell 1 rfl
                    by_cases hq : cc < 0
                    · have g8 : decide (cc < 0) = true := by simpa using hq
                      have HF := hide (HR.out _ ⟨K, by rw [← HN.out], hall.out, .inl fun hg => by have := ((good_succ h l K).1 hg).2; rw [← HCC.out] at this; omega⟩)
                      go_wp2
                      go_ret
                      exact ⟨_, rfl, HF.out, hbz7⟩
                    · have g8 : decide (cc < 0) = false := by simpa using hq
                      have HG := hide ((good_succ h l K).2 ⟨hlo2, by rw [← HCC.out]; omega⟩)
                      have HNK : Hid (N = t * ((K + 1 : Nat) : Int)) := by unfold Hid; rw [HN.out, show ((K + 1 : Nat) : Int) = (K : Int) + 1 by omega]
                      have x0 := hX7.cell 0 rfl
                      have x1 := hX7.cell 1 rfl
                      have x2 := hX7.cell 2 rfl
                      have y0 := hbx7.cell 0 rfl
                      have y1 := hbx7.cell 1 rfl
                      have y2 := hbx7.cell 2 rfl
                      have f0 := hbx7.frozen 0
                      have f1 := hbx7.frozen 1
                      have f2 := hbx7.frozen 2
                      have hbx8 := hbx7.store3 (.bool h.neg) (.slice A2 n2 c2) (.int .i64 (h.e - (K : Int) - 1))
                      have hbw8 := below_store3 hbw7 hg (.bool h.neg) (.slice A2 n2 c2) (.int .i64 (h.e - (K : Int) - 1))
                      have hv9 : RdD (((w7.setCell ⟨g, 0, none⟩ (.bool h.neg)).setCell ⟨g, 1, none⟩ (.slice A2 n2 c2)).setCell ⟨g, 2, none⟩ (.int .i64 (h.e - (K : Int) - 1))) (.agg #[.bool h.neg, .slice A2 n2 c2, .int .i64 (h.e - (K : Int) - 1)]) ⟨h.neg, h.m, h.e - (K : Int) - 1⟩ := by
                        obtain ⟨_, _, _, hv, hr, hl', he1', he2'⟩ := hv8
                        injection hv with hv
                        simp at hv
                        obtain ⟨e1, e2, e3⟩ := hv
                        subst e1 e2 e3
                        exact ⟨_, _, _, rfl, hr.store3 hbx7 _ _ _ (by simp) (by simp), hl', he1', he2'⟩
                      clear hbx7 hX7 hv8 hbw7 hbz7 hP7
                      go_upto_region 10 with fail
                      generalize (((w7.setCell ⟨g, 0, none⟩ (.bool h.neg)).setCell ⟨g, 1, none⟩ (.slice A2 n2 c2)).setCell ⟨g, 2, none⟩ (.int .i64 (h.e - (K : Int) - 1))) = w8 at *
                      clear x0 x1 x2 y0 y1 y2 f0 f1 f2 p1
                      have x0 := hbx8.cell 0 rfl
                      have x1 := hbx8.cell 1 rfl
                      have x2 := hbx8.cell 2 rfl
                      go_wp2_with fail
                      have hb9 : Below w8.heap.size w8 (w8.alloc (.cells #[.bool h.neg, .slice A2 n2 c2, .int .i64 (h.e - (K : Int) - 1)] 24)) := by go_grown
                      refine ⟨⟨K + 1, A2, n2, c2, w8.heap.size, ?_, rfl, ?_, ?_, ?_, ?_, ?_, ?_, ?_⟩, ?_⟩
                      · go_num
                      · exact Nat.le_trans (Nat.le_refl _) hbw8.size
                      · intro i hi1 hi2
                        rcases Nat.lt_or_ge K i with hlt | hge
                        · obtain rfl : i = K + 1 := by omega
                          exact ⟨HG.out, by rw [← HNK.out]; exact hn⟩
                        · exact hall.out i hi1 hge
                      · exact hide (by rw [← HNK.out]; exact hn)
                      · exact hide (by omega)
                      · rw [show h.e - ((K + 1 : Nat) : Int) = h.e - (K : Int) - 1 by omega]
                        exact Box.new w8 [.bool h.neg, .slice A2 n2 c2, .int .i64 (h.e - (K : Int) - 1)] 24
                      · rw [show h.e - ((K + 1 : Nat) : Int) = h.e - (K : Int) - 1 by omega]
                        exact hv9.below hb9
                      · exact below_then hbw8 hb9
                      · simp only [intOf]
                        omega
                  · rw [HSH.out, if_neg hlo2] at hv ⊢
                    obtain ⟨A2, n2, c2, rfl, hv1, hv2, hv3⟩ := hv
                    have HF := hide (HR.out _ ⟨K, by rw [← HN.out], hall.out, .inl fun hg => hlo2 ((good_succ h l K).1 hg).1⟩)
                    clear hv1 hv2 hv3 hlo2
                    have hb6 : Below w5.heap.size w5 (w5.alloc (.cells #[.bool Dy.zero.neg, .slice A2 n2 c2, .int .i64 Dy.zero.e] 24)) := by go_grown
                    have hP6 := hP5.keep hb6
                    go_upto_region 8 with fail
                    generalize (w5.alloc (.cells #[.bool Dy.zero.neg, .slice A2 n2 c2, .int .i64 Dy.zero.e] 24)) = w6 at *
                    have p1 := hP6.cell 1 rfl
                    go_wp2
                    go_ret
                    exact ⟨_, rfl, HF.out, below_then hbz5 hb6⟩
                · have g7 : decide (N < 1000000) = false := by simpa using hn
                  have HF := hide (HR.out _ ⟨K, by rw [← HN.out], hall.out, .inr (by rw [← HN.out]; omega)⟩)
                  go_wp2
                  go_ret
                  exact ⟨_, rfl, HF.out, hbz⟩
end Go.Proofs.YtdnknokhcliikaaDoor
