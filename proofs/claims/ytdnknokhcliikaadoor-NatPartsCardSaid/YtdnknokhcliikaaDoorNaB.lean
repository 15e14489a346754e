/- sluicewaylaw1: told. -/
import Derived.Test.YtdnknokhcliikaaDoorNaA
namespace Go.Proofs.YtdnknokhcliikaaDoor
open Go.RowKit Pl

theorem rd1 {W : World} {b x : Nat} (hb : b < W.heap.size) (hc : W.cell? ⟨b, 0, none⟩ = some (.int .u64 (x : Int))) : RdN .u64 W (some ⟨b, 0, none⟩) 1 1 [x] :=
  ⟨rfl, Nat.le_refl _, by decide, fun _ => ⟨b, 0, rfl, hb, fun k hk => by
    obtain rfl : k = 0 := by omega
    exact hc⟩⟩
theorem rd2 {W : World} {b x y : Nat} (hb : b < W.heap.size) (hc : W.cell? ⟨b, 0, none⟩ = some (.int .u64 (x : Int))) (hd : W.cell? ⟨b, 1, none⟩ = some (.int .u64 (y : Int))) : RdN .u64 W (some ⟨b, 0, none⟩) 2 2 [x, y] :=
  ⟨rfl, Nat.le_refl _, by decide, fun _ => ⟨b, 0, rfl, hb, fun k hk => by
    obtain rfl | rfl : k = 0 ∨ k = 1 := by omega
    · exact hc
    · exact hd⟩⟩
theorem limbs1 {x : Nat} (h0 : 0 < x) (h : x < BB) : limbs BB x = [x] := limbs_of BB_gt1 (Lim.cons h Lim.nil) (by simp [Cnl]; omega) (by simp [val])
theorem R64.one {W : World} {b x : Nat} (h0 : 0 < x) (h : x < BB) (hb : b < W.heap.size) (hc : W.cell? ⟨b, 0, none⟩ = some (.int .u64 (x : Int))) : R64 W (.slice (some ⟨b, 0, none⟩) 1 1) x :=
  ⟨_, _, _, rfl, by rw [limbs1 h0 h]; exact rd1 hb hc⟩
theorem limbs_BB : limbs BB BB = [0, 1] := limbs_of BB_gt1 (Lim.cons BB_pos (Lim.cons BB_gt1 Lim.nil)) (by simp [Cnl]) (by simp [val])
theorem lim1 {x : Nat} (h : x < BB) : Lim BB [x] := Lim.cons h Lim.nil
theorem may1 {x : Nat} (h : 0 < x) : mayN [x] = true := by
  have : ¬ x = 0 := by omega
  simp [mayN, nth, this]
theorem val1 (x : Nat) : val BB [x] = x := by simp [val]

theorem rdb {W : World} {b : Nat} {t : TypeId} (x : Nat) (h : Box W b [.int .u64 (x : Int)] t) : RdN .u64 W (some ⟨b, 0, none⟩) 1 1 [x] := rd1 h.lt (h.cell 0 rfl)
theorem R64b {W : World} {b : Nat} {t : TypeId} (x : Nat) (h : Box W b [.int .u64 (x : Int)] t) (h0 : 0 < x) (hx : x < BB) : R64 W (.slice (some ⟨b, 0, none⟩) 1 1) x := R64.one h0 hx h.lt (h.cell 0 rfl)

theorem sub12 : (if (mayN [1] && mayN [2]) = true ∧ val BB [2] ≤ val BB [1] then (val BB [1] - val BB [2], 0) else ((0 : Nat), (1 : Int))) = (0, 1) := by
  rw [val1, val1, if_neg (by omega)]
theorem shl64 : shlR [1] 64 = (BB, 0) := by
  unfold shlR
  rw [if_neg (by simp [may1]), if_neg (by simp), if_neg (by rw [sizeN_can (lim1 BB_gt1) (by simp [Cnl]), val1]; decide), val1]
  congr 1
theorem size01 : sizeN [0, 1] = 65 := by
  unfold sizeN
  simp [nth, blen]
  decide
theorem zeros01 : zerosN [0, 1] = 64 := by
  unfold zerosN
  have h : val BB [0, 1] = BB := by simp [val]
  rw [h, if_neg (by unfold BB; omega), show tz BB = 64 from tz_of (m := 1) (by rfl) rfl]
  rfl
set_option maxRecDepth 100000 in
set_option maxHeartbeats 4000000 in
theorem told1_any (w : World) (hT : TabAt w) :
    Calls Tryd.prog 19 #[] w fun x w' => x = .returned (.bool true) ∧ Below w.heap.size w w' := by
  obtain ⟨hA, hB, hb0⟩ := box_2 w [.int .u64 7] [.int .u64 2] 37 37
  go_enter Tryd.func19, Tryd.ntmps19
  go_wp2_with fail
  generalize ((w.alloc (.cells #[.int .u64 7] 37)).alloc (.cells #[.int .u64 2] 37)) = W at *
  have hT0 := hide (hT.below hb0)
  refine (divF_one _ 1 1 [7] _ 1 2 _ (rdb 7 hA) (rdb 2 hB) (lim1 (by unfold BB; omega)) (may1 (by omega)) (by omega) (by unfold BB; omega)).mono ?_
  rw [val1]
  rintro e w1 ⟨⟨uq, ur, rfl, hq, hr⟩, hb1⟩
  have hb01 := below_then hb0 hb1
  have hT1 := hide (hT0.out.below hb1)
  clear hA hB hb0 hb1 hT0 hT
  obtain ⟨hA, hB, hb2⟩ := box_2 w1 [.int .u64 1] [.int .u64 2] 37 37
  go_wp2_with fail
  generalize ((w1.alloc (.cells #[.int .u64 1] 37)).alloc (.cells #[.int .u64 2] 37)) = W2 at *
  refine (subF_any _ 1 1 [1] _ 1 1 [2] _ (rdb 1 hA) (rdb 2 hB) (lim1 BB_gt1) (lim1 (by unfold BB; omega))).mono ?_
  rw [sub12]
  rintro e w3 ⟨⟨us, rfl, hs⟩, hb3⟩
  have hq3 := (hq.below hb2).below hb3
  have hr3 := (hr.below hb2).below hb3
  have hb03 := below_then hb01 (below_then hb2 hb3)
  have hT3 := hide (hT1.out.below (below_then hb2 hb3))
  clear hA hB hb01 hb2 hb3 hT1 hq hr hs
  obtain ⟨hA, hb4⟩ := box_1 w3 [.int .u64 1] 37
  go_wp2_with fail
  generalize (w3.alloc (.cells #[.int .u64 1] 37)) = W4 at *
  refine (divF_nil _ 1 1 [1] _ 0 _ (rdb 1 hA) (RdN.nil _ _) (may1 (by omega))).mono ?_
  rintro e w5 ⟨⟨ud, ue, rfl, _, _⟩, hb5⟩
  have hq5 := (hq3.below hb4).below hb5
  have hr5 := (hr3.below hb4).below hb5
  have hb05 := below_then hb03 (below_then hb4 hb5)
  have hT5 := hide (hT3.out.below (below_then hb4 hb5))
  clear hA hb03 hb4 hb5 hT3 hq3 hr3
  obtain ⟨hA, hb6⟩ := box_1 w5 [.int .u64 1] 37
  go_wp2_with fail
  generalize (w5.alloc (.cells #[.int .u64 1] 37)) = W6 at *
  refine (shlF_any _ 1 1 [1] _ (rdb 1 hA) (lim1 BB_gt1) 64 (by omega) (by omega)).mono ?_
  rw [shl64]
  rintro e w7 ⟨⟨ul, rfl, hl⟩, hb7⟩
  have hq7 := (hq5.below hb6).below hb7
  have hr7 := (hr5.below hb6).below hb7
  have hb07 := below_then hb05 (below_then hb6 hb7)
  have hT7 := hide (hT5.out.below (below_then hb6 hb7))
  clear hA hb05 hb6 hb7 hT5 hq5 hr5
  obtain ⟨hA, hb8⟩ := box_1 w7 [.int .u64 3] 37
  go_wp2_with fail
  generalize (w7.alloc (.cells #[.int .u64 3] 37)) = W8 at *
  refine (same_R _ _ 3 _ (hq7.below hb8) (R64b 3 hA (by omega) (by unfold BB; omega))).mono ?_
  rintro e w9 ⟨rfl, hb9⟩
  have hr9 := (hr7.below hb8).below hb9
  have hl9 := (hl.below hb8).below hb9
  have hb09 := below_then hb07 (below_then hb8 hb9)
  have hT9 := hide (hT7.out.below (below_then hb8 hb9))
  clear hA hb07 hb8 hb9 hT7 hq7 hr7 hl
  obtain ⟨hA, hb10⟩ := box_1 w9 [.int .u64 1] 37
  go_wp2_with fail
  generalize (w9.alloc (.cells #[.int .u64 1] 37)) = W10 at *
  refine (same_R _ _ 1 _ (hr9.below hb10) (R64b 1 hA (by omega) BB_gt1)).mono ?_
  rintro e w11 ⟨rfl, hb11⟩
  have hl11 := (hl9.below hb10).below hb11
  have hb011 := below_then hb09 (below_then hb10 hb11)
  have hT11 := hide (hT9.out.below (below_then hb10 hb11))
  clear hA hb09 hb10 hb11 hT9 hr9 hl9
  obtain ⟨hA, hb12⟩ := box_1 w11 [.int .u64 0, .int .u64 1] 37
  go_wp2_with fail
  generalize (w11.alloc (.cells #[.int .u64 0, .int .u64 1] 37)) = W12 at *
  have hB2 : R64 W12 (.slice (some ⟨w11.heap.size, 0, none⟩) 2 2) BB := ⟨_, _, _, rfl, by rw [limbs_BB]; exact rd2 hA.lt (hA.cell 0 rfl) (hA.cell 1 rfl)⟩
  refine (same_R _ _ BB _ (hl11.below hb12) hB2).mono ?_
  rintro e w13 ⟨rfl, hb13⟩
  have hl13 := (hl11.below hb12).below hb13
  have hb013 := below_then hb011 (below_then hb12 hb13)
  have hT13 := hide (hT11.out.below (below_then hb12 hb13))
  clear hA hb011 hb12 hb13 hT11 hl11 hB2
  obtain ⟨AL, nL, cL, rfl, hL⟩ := hl13
  have hnL : nL = 2 := by rw [← hL.len]; simp only [limbs_BB]; rfl
  subst hnL
  simp only [limbs_BB] at hL
  have h01 : Lim BB [0, 1] := Lim.cons BB_pos (Lim.cons BB_gt1 Lim.nil)
  go_wp2_with fail
  refine (lenF_any _ _ _ _ _ hL h01).mono ?_
  rw [size01, if_pos (by decide)]
  rintro e w' ⟨rfl, rfl⟩
  go_wp2_with fail
  refine (lowF_any _ _ _ _ _ hL h01 hT13.out).mono ?_
  rw [zeros01, if_pos (by decide)]
  rintro e w' ⟨rfl, rfl⟩
  go_wp2_with fail
  refine (may_any _ _ _ _ _ hL).mono ?_
  rintro e w' ⟨rfl, rfl⟩
  rw [show mayN [0, 1] = true by decide]
  obtain ⟨hA, hb14⟩ := box_1 w13 [.int .u64 0] 37
  go_wp2_with fail
  generalize (w13.alloc (.cells #[.int .u64 0] 37)) = W14 at *
  refine (may_any _ _ _ _ _ (rdb 0 hA)).mono ?_
  rintro e w' ⟨rfl, rfl⟩
  rw [show mayN [0] = false by decide]
  go_wp2_with fail
  go_ret
  exact ⟨rfl, below_then hb013 hb14⟩
end Go.Proofs.YtdnknokhcliikaaDoor
