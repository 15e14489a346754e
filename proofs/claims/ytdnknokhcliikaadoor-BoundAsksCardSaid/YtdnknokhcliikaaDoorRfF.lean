/- Contracts of the document's answer sluicewayref1, part F: Shift. -/
import Derived.Test.YtdnknokhcliikaaDoorRfE
import Derived.Test.YtdnknokhcliikaaDoorDyH
namespace Go.Proofs.YtdnknokhcliikaaDoor
open Go.RowKit Pl

/-- The document's Shift. -/
def shiftR (d : Dy) (n : Int) : Dy × Int :=
  if mayD d = false then (Dy.zero, 1)
  else if d.m.length = 0 then (d, 0)
  else if 4194304 < n ∨ n < -4194304 ∨ 1048576 < d.e + n ∨ d.e + n < -1048576 then (Dy.zero, 3)
  else (⟨d.neg, d.m, d.e + n⟩, 0)
theorem mayD_odd {d : Dy} (h : mayD d = true) (h0 : d.m ≠ []) : nth d.m 0 % 2 = 1 := by
  have h0' : d.m.length ≠ 0 := fun e => h0 (List.length_eq_zero_iff.1 e)
  unfold mayD at h
  rw [if_neg h0'] at h
  simp only [Bool.and_eq_true, decide_eq_true_eq] at h
  exact h.1.1.2
theorem shiftR_S (d : Dy) (n : Int) (hl : Lim BB d.m) : shiftR d n = shiftS d n := by
  unfold shiftR shiftS
  by_cases hM : mayD d = true
  · have hn : ¬ (mayD d = false) := by simp [hM]
    rw [if_neg hn, if_neg hn]
    by_cases h0 : d.m.length = 0
    · rw [if_pos h0, if_pos h0]
    · rw [if_neg h0, if_neg h0]
      obtain ⟨hC, h64, he1, he2⟩ := mayD_limbs hM
      have hne : d.m ≠ [] := fun e => h0 (by rw [e]; rfl)
      have hodd := val_odd hne (mayD_odd hM hne)
      have hv : val BB d.m ≠ 0 := by omega
      have htz : tz (val BB d.m) = 0 := tz_odd hodd
      have hlm : limbs BB (val BB d.m / 2 ^ tz (val BB d.m)) = d.m := by
        rw [htz, Nat.pow_zero, Nat.div_one]
        exact limbs_of BB_gt1 hl hC rfl
      by_cases hn : n ≤ 2097152 ∧ -2097152 ≤ n
      · rw [if_neg (show ¬ ¬ (n ≤ 2097152 ∧ -2097152 ≤ n) by omega)]
        unfold fitS
        rw [if_neg hv, hlm, if_neg (show ¬ ¬ d.m.length ≤ 64 by omega), htz]
        by_cases h1 : 4194304 < n ∨ n < -4194304 ∨ 1048576 < d.e + n ∨ d.e + n < -1048576
        · rw [if_pos h1, if_pos (show ¬ (d.e + n ≤ 1048576 ∧ -1048576 - ((0 : Nat) : Int) ≤ d.e + n) by omega)]
        · rw [if_neg h1, if_neg (show ¬ ¬ (d.e + n ≤ 1048576 ∧ -1048576 - ((0 : Nat) : Int) ≤ d.e + n) by omega), if_neg (show ¬ ¬ (d.e + n + ((0 : Nat) : Int) ≤ 1048576) by omega)]
          simp
      · rw [if_pos hn, if_pos (show 4194304 < n ∨ n < -4194304 ∨ 1048576 < d.e + n ∨ d.e + n < -1048576 by omega)]
  · have hM' : mayD d = false := by simpa using hM
    rw [if_pos hM', if_pos hM']

set_option maxRecDepth 100000 in
set_option maxHeartbeats 2000000 in
theorem rshiftD_any (v : Value) (d : Dy) (n : Int) (w : World) (h : RdD w v d) :
    Calls Tryd.prog 52 #[v, .int .i64 n] w (FacePost w (shiftS d n)) := by
  have h' := h
  obtain ⟨A, k, c, rfl, hr, hl, he1, he2⟩ := h
  have hlen := hr.len
  subst hlen
  rw [← shiftR_S d n hl]
  obtain ⟨hA, hB, hb0⟩ := box_2 w [.bool d.neg, .slice A d.m.length c, .int .i64 d.e] [.bool false, .slice none 0 0, .int .i64 0] 24 24
  go_enter Tryd.func52, Tryd.ntmps52
  go_upto_region 1 with fail
  generalize ((w.alloc (.cells #[.bool d.neg, .slice A d.m.length c, .int .i64 d.e] 24)).alloc (.cells #[.bool false, .slice none 0 0, .int .i64 0] 24)) = W at *
  have hda := h'.below hb0
  clear h' hr
  have a0 := hA.cell 0 rfl
  have a1 := hA.cell 1 rfl
  have a2 := hA.cell 2 rfl
  go_wp2_with fail
  refine (rmayD_any _ d _ hda).mono ?_
  rintro x w2 ⟨rfl, hb2⟩
  have hA2 := hA.keep hb2
  have hB2 := hB.keep hb2
  have hd2 := hda.below hb2
  have hb02 := below_then hb0 hb2
  clear a0 a1 a2 hA hB hda hb2 hb0
  have a0 := hA2.cell 0 rfl
  have a1 := hA2.cell 1 rfl
  have a2 := hA2.cell 2 rfl
  have b0 := hB2.cell 0 rfl
  have b1 := hB2.cell 1 rfl
  have b2 := hB2.cell 2 rfl
  have f0 := hA2.frozen 0
  have f1 := hA2.frozen 1
  have f2 := hA2.frozen 2
  have g0 := hB2.frozen 0
  have g1 := hB2.frozen 1
  have g2 := hB2.frozen 2
  by_cases hM : mayD d = true
  · rw [hM]
    obtain ⟨hC, h64, hE1, hE2⟩ := mayD_limbs hM
    by_cases h0 : d.m.length = 0
    · have e0 : ((d.m.length : Int) == 0) = true := by simp [h0]
      have HR : Hid (shiftR d n = (d, 0)) := by unfold Hid shiftR; rw [if_neg (by simp [hM]), if_pos h0]
      clear h0
      go_wp2
      have hR := hB2.store3 (.bool d.neg) (.slice A d.m.length c) (.int .i64 d.e)
      have q0 := hR.cell 0 rfl
      have q1 := hR.cell 1 rfl
      have q2 := hR.cell 2 rfl
      refine bodyPost_ret (v := .tuple #[.agg #[.bool d.neg, .slice A d.m.length c, .int .i64 d.e], .int .i64 0]) (by simp [results, Tryd.results52, go_sem, q0, q1, q2]) rfl ⟨below_store3 hb02 (Nat.le_succ _) _ _ _, ?_⟩
      rw [HR.out]
      obtain ⟨A', k', c', hv, hr, hl', he1', he2'⟩ := hd2
      injection hv with hv
      simp at hv
      obtain ⟨e1, e2, e3⟩ := hv
      subst e1 e2 e3
      exact ⟨_, rfl, _, _, _, rfl, hr.store3 hB2 _ _ _ (by simp) (by simp), hl, he1, he2⟩
    · have e0 : ((d.m.length : Int) == 0) = false := beq_eq_false_iff_ne.2 (by omega)
      by_cases hbad : 4194304 < n ∨ n < -4194304 ∨ 1048576 < d.e + n ∨ d.e + n < -1048576
      · have HR : Hid (shiftR d n = (Dy.zero, 3)) := by unfold Hid shiftR; rw [if_neg (by simp [hM]), if_neg h0, if_pos hbad]
        clear h0
        by_cases g1 : 4194304 < n
        · have t1 : decide (4194304 < n) = true := by simpa using g1
          clear hbad
          go_wp2
          have hR := hB2.store3 (.bool false) (.slice none 0 0) (.int .i64 0)
          have q0 := hR.cell 0 rfl
          have q1 := hR.cell 1 rfl
          have q2 := hR.cell 2 rfl
          refine bodyPost_ret (v := .tuple #[.agg #[.bool false, .slice none 0 0, .int .i64 0], .int .i64 3]) (by simp [results, Tryd.results52, go_sem, q0, q1, q2]) rfl ⟨below_store3 hb02 (Nat.le_succ _) _ _ _, ?_⟩
          rw [HR.out]
          exact ⟨_, rfl, RdD.zero _⟩
        · have t1 : decide (4194304 < n) = false := by simpa using g1
          by_cases g2 : n < -4194304
          · have t2 : decide (n < -4194304) = true := by simpa using g2
            clear hbad
            go_wp2
            have hR := hB2.store3 (.bool false) (.slice none 0 0) (.int .i64 0)
            have q0 := hR.cell 0 rfl
            have q1 := hR.cell 1 rfl
            have q2 := hR.cell 2 rfl
            refine bodyPost_ret (v := .tuple #[.agg #[.bool false, .slice none 0 0, .int .i64 0], .int .i64 3]) (by simp [results, Tryd.results52, go_sem, q0, q1, q2]) rfl ⟨below_store3 hb02 (Nat.le_succ _) _ _ _, ?_⟩
            rw [HR.out]
            exact ⟨_, rfl, RdD.zero _⟩
          · have t2 : decide (n < -4194304) = false := by simpa using g2
            by_cases g3 : 1048576 < d.e + n
            · have t3 : decide (1048576 < d.e + n) = true := by simpa using g3
              clear hbad
              go_wp2
              have hR := hB2.store3 (.bool false) (.slice none 0 0) (.int .i64 0)
              have q0 := hR.cell 0 rfl
              have q1 := hR.cell 1 rfl
              have q2 := hR.cell 2 rfl
              refine bodyPost_ret (v := .tuple #[.agg #[.bool false, .slice none 0 0, .int .i64 0], .int .i64 3]) (by simp [results, Tryd.results52, go_sem, q0, q1, q2]) rfl ⟨below_store3 hb02 (Nat.le_succ _) _ _ _, ?_⟩
              rw [HR.out]
              exact ⟨_, rfl, RdD.zero _⟩
            · have t3 : decide (1048576 < d.e + n) = false := by simpa using g3
              have t4 : decide (d.e + n < -1048576) = true := by simp; omega
              clear hbad
              go_wp2
              have hR := hB2.store3 (.bool false) (.slice none 0 0) (.int .i64 0)
              have q0 := hR.cell 0 rfl
              have q1 := hR.cell 1 rfl
              have q2 := hR.cell 2 rfl
              refine bodyPost_ret (v := .tuple #[.agg #[.bool false, .slice none 0 0, .int .i64 0], .int .i64 3]) (by simp [results, Tryd.results52, go_sem, q0, q1, q2]) rfl ⟨below_store3 hb02 (Nat.le_succ _) _ _ _, ?_⟩
              rw [HR.out]
              exact ⟨_, rfl, RdD.zero _⟩
      · have HR : Hid (shiftR d n = (⟨d.neg, d.m, d.e + n⟩, 0)) := by unfold Hid shiftR; rw [if_neg (by simp [hM]), if_neg h0, if_neg hbad]
        have t1 : decide (4194304 < n) = false := by simp; omega
        have t2 : decide (n < -4194304) = false := by simp; omega
        have t3 : decide (1048576 < d.e + n) = false := by simp; omega
        have t4 : decide (d.e + n < -1048576) = false := by simp; omega
        have n1 : -4194304 ≤ n := by omega
        have n2 : n ≤ 4194304 := by omega
        have n3 := hide (show -1048576 ≤ d.e + n ∧ d.e + n ≤ 1048576 by omega)
        clear h0 hbad
        have hA3 := hA2.set 2 (.int .i64 (d.e + n))
        have hB3 := hB2.far (Nat.succ_ne_self w.heap.size) 2 (.int .i64 (d.e + n))
        have hb3 := hb02.setCell (p := ⟨w.heap.size, 2, none⟩) (Nat.le_refl _) (.int .i64 (d.e + n))
        have hr3 : RdN .u64 _ A d.m.length c d.m := (by obtain ⟨_, _, _, hv, hr, _⟩ := hd2; injection hv with hv; simp at hv; obtain ⟨e1, e2, e3⟩ := hv; subst e1 e2 e3; exact hr.apart hA2 (by simp) 2 (.int .i64 (d.e + n)))
        go_upto_region 8 with fail
        generalize (w2.setCell ⟨w.heap.size, 2, none⟩ (.int .i64 (d.e + n))) = w3 at *
        clear a0 a1 a2 b0 b1 b2 f0 f1 f2 g0 g1 g2
        have a0 := hA3.cell 0 rfl
        have a1 := hA3.cell 1 rfl
        have a2 := hA3.cell 2 rfl
        have b0 := hB3.cell 0 rfl
        have b1 := hB3.cell 1 rfl
        have b2 := hB3.cell 2 rfl
        have g0 := hB3.frozen 0
        have g1 := hB3.frozen 1
        have g2 := hB3.frozen 2
        go_wp2
        have hR := hB3.store3 (.bool d.neg) (.slice A d.m.length c) (.int .i64 (d.e + n))
        have q0 := hR.cell 0 rfl
        have q1 := hR.cell 1 rfl
        have q2 := hR.cell 2 rfl
        refine bodyPost_ret (v := .tuple #[.agg #[.bool d.neg, .slice A d.m.length c, .int .i64 (d.e + n)], .int .i64 0]) (by simp [results, Tryd.results52, go_sem, q0, q1, q2]) rfl ⟨below_store3 hb3 (Nat.le_succ _) _ _ _, ?_⟩
        rw [HR.out]
        exact ⟨_, rfl, _, _, _, rfl, hr3.store3 hB3 _ _ _ (by simp) (by simp), hl, by have := n3.out; show _ ≤ d.e + n; omega, by have := n3.out; show d.e + n ≤ _; omega⟩
  · have hM' : mayD d = false := by simpa using hM
    rw [hM']
    have HR : Hid (shiftR d n = (Dy.zero, 1)) := by unfold Hid shiftR; rw [if_pos hM']
    clear hM
    go_wp2
    have hR := hB2.store3 (.bool false) (.slice none 0 0) (.int .i64 0)
    have q0 := hR.cell 0 rfl
    have q1 := hR.cell 1 rfl
    have q2 := hR.cell 2 rfl
    refine bodyPost_ret (v := .tuple #[.agg #[.bool false, .slice none 0 0, .int .i64 0], .int .i64 1]) (by simp [results, Tryd.results52, go_sem, q0, q1, q2]) rfl ⟨below_store3 hb02 (Nat.le_succ _) _ _ _, ?_⟩
    rw [HR.out]
    exact ⟨_, rfl, RdD.zero _⟩
end Go.Proofs.YtdnknokhcliikaaDoor
