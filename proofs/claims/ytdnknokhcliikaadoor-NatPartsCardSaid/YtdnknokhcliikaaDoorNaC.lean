/- sluicewaylaw1: the walk of NatBits. -/
import Derived.Test.YtdnknokhcliikaaDoorNaB
namespace Go.Proofs.YtdnknokhcliikaaDoor
open Go.RowKit Pl

theorem few_yes {n : Nat} (h : (n : Int) ≤ 70) : decide ((n : Int) ≤ 70) = true := decide_eq_true h
theorem few_no {n : Nat} (h : ¬ (n : Int) ≤ 70) : decide ((n : Int) ≤ 70) = false := decide_eq_false h
theorem shlR_bad {xs : List Nat} {j : Int} (h : mayN xs = false ∨ j < 0) : shlR xs j = (0, 1) := by unfold shlR; rw [if_pos h]
theorem shrR_bad {xs : List Nat} {j : Int} (h : mayN xs = false ∨ j < 0) : shrR xs j = (0, 1) := by unfold shrR; rw [if_pos h]
theorem shrR_good {xs : List Nat} {j : Int} (hm : mayN xs = true) (hj : 0 ≤ j) : shrR xs j = (val BB xs / 2 ^ j.toNat, 0) := by
  unfold shrR; rw [if_neg (by simp [hm]; omega)]
theorem shlR_nil {j : Int} (hj : 0 ≤ j) : shlR [] j = (0, 0) := by
  unfold shlR; rw [if_neg (by simp [mayN]; omega)]; exact if_pos rfl
theorem shlR_cap {xs : List Nat} {j : Int} (hl : Lim BB xs) (hm : mayN xs = true) (hn : xs.length ≠ 0) (hj : 0 ≤ j) : shlR xs j = capF (val BB xs * 2 ^ j.toNat) := by
  have hv := val_pos_may hm hn
  have h1 := blen_mul_pow hv j.toNat
  have h2 : blen (val BB xs * 2 ^ j.toNat) ≤ 4096 ↔ val BB xs * 2 ^ j.toNat < BB ^ 64 := BB64 rfl
  unfold shlR capF
  rw [if_neg (by simp [hm]; omega), if_neg hn, sizeN_can hl (mayN_can hm).1]
  by_cases hc : (4096 : Int) - (blen (val BB xs) : Int) < j
  · rw [if_pos hc, if_neg (fun h => by have := h2.2 h; omega)]
  · rw [if_neg hc, if_pos (h2.1 (by omega))]
theorem div_cap {X : Nat} (h : X < BB ^ 64) (k : Nat) : X / 2 ^ k < BB ^ 64 := Nat.lt_of_le_of_lt (Nat.div_le_self _ _) h
theorem rshr_int (A : Option Addr) (n c X : Nat) (k : Int) (w : World) (h : RdN .u32 w A n c (limbs DD X)) (hn : n ≤ 100000) (hk0 : 0 ≤ k) (hk : k ≤ 1000000) :
    Calls Tryd.prog 33 #[.slice A n c, .int .i64 k] w fun e w' => ∃ v, e = .returned v ∧ R16 w' v (X / 2 ^ k.toNat) ∧ Below w.heap.size w w' := by
  obtain ⟨m, rfl⟩ := Int.eq_ofNat_of_zero_le hk0
  rw [Int.toNat_natCast]
  exact rshr_any A n c X m w h hn (by omega)
theorem is_R (u v : Value) (p : Nat) (q : Int) (X : Nat) (w : World) (e : (p, q) = capF X) (h : R64 w u p) (k : R16 w v X) (hX : blen X ≤ 1000000) :
    Calls Tryd.prog 31 #[u, .int .i64 q, v] w fun e w' => e = .returned (.bool true) ∧ Below w.heap.size w w' := by
  have h1 : p = (capF X).1 := congrArg Prod.fst e
  have h2 : q = (capF X).2 := congrArg Prod.snd e
  subst h1 h2
  exact is_any u v X w h k hX
/-- One told more, from a later world. -/
theorem told_then {w w1 : World} (hT : TabAt w) (hb : Below w.heap.size w w1) :
    Calls Tryd.prog 19 #[] w1 fun x w' => x = .returned (.bool true) ∧ Below w.heap.size w w' :=
  (told1_any w1 (hT.below hb)).mono fun _ _ ⟨he, h2⟩ => ⟨he, below_then hb h2⟩

set_option maxRecDepth 100000 in
set_option maxHeartbeats 4000000 in
theorem natBits_any (A : Option Addr) (n c : Nat) (xs : List Nat) (j : Int) (w : World) (h : RdN .u64 w A n c xs) (hl : Lim BB xs) (hj1 : -9223372036854775808 ≤ j) (hj2 : j ≤ 9223372036854775807) (hT : TabAt w) :
    Calls Tryd.prog 6 #[.slice A n c, .int .i64 j] w fun x w' => x = .returned (.bool true) ∧ Below w.heap.size w w' := by
  have hlen := h.len
  have hcap := h.cap
  have hmax := h.max
  unfold maxLen at hmax
  have HT := hide hT
  clear hT
  by_cases hf : (n : Int) ≤ 70
  · go_enter Tryd.func6, Tryd.ntmps6
    go_wp2_with fail
    refine (few_any A n c xs _ h).mono ?_
    rw [few_yes hf]
    rintro e w' ⟨rfl, rfl⟩
    go_wp2_with fail
    refine (shlF_any A n c xs _ h hl j hj1 hj2).mono ?_
    rintro e w1 ⟨⟨us, rfl, hs⟩, hb1⟩
    obtain ⟨⟨sp, sq⟩, hS⟩ : ∃ p, p = shlR xs j := ⟨_, rfl⟩
    rw [← hS] at hs ⊢
    simp only at hs ⊢
    go_wp2_with fail
    refine (shrF_any A n c xs _ (h.below hb1) hl j hj1 hj2).mono ?_
    rintro e w2 ⟨⟨ud, rfl, hd⟩, hb2⟩
    obtain ⟨⟨dp, dq⟩, hD⟩ : ∃ p, p = shrR xs j := ⟨_, rfl⟩
    rw [← hD] at hd ⊢
    simp only at hd ⊢
    have hs2 := hs.below hb2
    have hb02 := below_then hb1 hb2
    clear hs hb1 hb2
    go_wp2_with fail
    refine (norm_any A n c xs _ (h.below hb02) hl (by omega)).mono ?_
    rintro e w3 ⟨ut, rfl, ht, hb3⟩
    have hs3 := hs2.below hb3
    have hd3 := hd.below hb3
    have hb03 := below_then hb02 hb3
    clear hs2 hd hb02 hb3
    go_wp2_with fail
    refine (from_any A n c xs _ (h.below hb03) hl (by omega)).mono ?_
    rintro e w4 ⟨Ax, nx, cx, rfl, hx, hb4⟩
    have hs4 := hs3.below hb4
    have hd4 := hd3.below hb4
    have ht4 := ht.below hb4
    have hb04 := below_then hb03 hb4
    have hvb : blen (val BB xs) ≤ 640000 := val_len h hl (by omega)
    have hnx : nx ≤ 62500 := dig_len hx (by omega)
    clear hs3 hd3 ht hb03 hb4
    go_wp2_with fail
    refine (limbs_any Ax nx cx (val BB xs) _ hx (by omega)).mono ?_
    rintro e w5 ⟨uz, rfl, hz, hb5⟩
    have hs5 := hs4.below hb5
    have hd5 := hd4.below hb5
    have ht5 := ht4.below hb5
    have hx5 := hx.below hb5
    have hb05 := below_then hb04 hb5
    clear hs4 hd4 ht4 hx hb04 hb5
    go_wp2_with fail
    refine (same_R _ _ _ _ ht5 hz).mono ?_
    rintro e w6 ⟨rfl, hb6⟩
    have hs6 := hs5.below hb6
    have hd6 := hd5.below hb6
    have hx6 := hx5.below hb6
    have hb06 := below_then hb05 hb6
    have h6 := h.below hb06
    clear hs5 hd5 ht5 hx5 hz hb05 hb6
    have hmay := fun w h => rmay_any A n c xs w h
    have hLen := fun w h => lenF_any A n c xs w h hl
    have hLow := fun w h hT => lowF_any A n c xs w h hl hT
    cases hm : mayN xs <;> simp only [hm] at hmay hLen hLow
    · -- no natural
      rw [shlR_bad (.inl hm)] at hS
      rw [shrR_bad (.inl hm)] at hD
      obtain ⟨rfl, rfl⟩ := Prod.mk.inj hS
      obtain ⟨rfl, rfl⟩ := Prod.mk.inj hD
      clear hS hD
      go_wp2_with fail
      refine (hmay _ h6).mono ?_
      rintro e w' ⟨rfl, rfl⟩
      go_wp2_with fail
      refine (told_then HT.out hb06).mono ?_
      rintro e w7 ⟨rfl, hb7⟩
      go_wp2_with fail
      refine (hLen _ (h.below hb7)).mono ?_
      rintro e w' ⟨rfl, rfl⟩
      go_wp2_with fail
      refine (hLow _ (h.below hb7) (HT.out.below hb7)).mono ?_
      rintro e w' ⟨rfl, rfl⟩
      go_wp2_with fail
      go_ret
      exact ⟨rfl, hb7⟩
    · have h64 := mayN_len hm
      rw [sizeN_can hl (mayN_can hm).1] at hLen
      have hBits := fun w h => rbitsX Ax nx cx (val BB xs) w h (by omega)
      obtain ⟨s, es⟩ : ∃ s, s = blen (val BB xs) := ⟨_, rfl⟩
      rw [← es] at hLen hBits
      have HVB := hide hvb
      clear es hvb
      go_wp2_with fail
      refine (hmay _ h6).mono ?_
      rintro e w' ⟨rfl, rfl⟩
      go_wp2_with fail
      refine (hLen _ h6).mono ?_
      rintro e w' ⟨rfl, rfl⟩
      go_wp2_with fail
      refine (hBits _ hx6).mono ?_
      rintro e w' ⟨rfl, rfl⟩
      by_cases hj : j < 0
      · rw [shlR_bad (.inr hj)] at hS
        rw [shrR_bad (.inr hj)] at hD
        obtain ⟨rfl, rfl⟩ := Prod.mk.inj hS
        obtain ⟨rfl, rfl⟩ := Prod.mk.inj hD
        obtain ⟨As, ns, cs, rfl, hsr⟩ := hs6
        obtain ⟨Ad, nd, cd, rfl, hdr⟩ := hd6
        have hns : ns = 0 := by rw [← hsr.len]; rfl
        have hnd : nd = 0 := by rw [← hdr.len]; rfl
        subst hns hnd
        clear hS hD
        go_wp2_with fail
        refine (told_then HT.out hb06).mono ?_
        rintro e w7 ⟨rfl, hb7⟩
        go_wp2_with fail
        go_ret
        exact ⟨rfl, hb7⟩
      · by_cases h0 : n = 0
        · have hxs : xs = [] := List.length_eq_zero_iff.1 (by omega)
          subst hxs
          rw [shlR_nil (by omega)] at hS
          rw [shrR_good rfl (by omega), show val BB [] / 2 ^ j.toNat = 0 by simp [val]] at hD
          obtain ⟨rfl, rfl⟩ := Prod.mk.inj hS
          obtain ⟨rfl, rfl⟩ := Prod.mk.inj hD
          obtain ⟨As, ns, cs, rfl, hsr⟩ := hs6
          obtain ⟨Ad, nd, cd, rfl, hdr⟩ := hd6
          have hns : ns = 0 := by rw [← hsr.len]; rfl
          have hnd : nd = 0 := by rw [← hdr.len]; rfl
          subst hns hnd h0
          rw [show zerosN [] = -1 from rfl] at hLow
          clear hS hD
          go_wp2_with fail
          refine (told_then HT.out hb06).mono ?_
          rintro e w7 ⟨rfl, hb7⟩
          go_wp2_with fail
          refine (hLow _ (h.below hb7) (HT.out.below hb7)).mono ?_
          rintro e w' ⟨rfl, rfl⟩
          go_wp2_with fail
          go_ret
          exact ⟨rfl, hb7⟩
        · have hv0 := val_pos_may hm (by omega)
          rw [zerosN_val hv0] at hLow
          have hRLow := fun w h => low_any Ax nx cx (val BB xs) w h hv0 (Nat.le_trans HVB.out (by omega))
          have htz := tz_lt_blen hv0
          have htb : tz (val BB xs) ≤ 640000 := by have := HVB.out; omega
          obtain ⟨t, et⟩ : ∃ t, t = tz (val BB xs) := ⟨_, rfl⟩
          rw [← et] at hLow hRLow htb
          have e0 : ((n : Int) == 0) = false := by rw [beq_eq_false_iff_ne]; omega
          have hlt := hide (may_lt hl hm)
          have hSC := hide (shlR_cap hl hm (by omega) (show 0 ≤ j by omega))
          have hDC := hide (shrR_good hm (show 0 ≤ j by omega))
          clear et htz
          go_wp2_with fail
          refine (hLow _ h6 (HT.out.below hb06)).mono ?_
          rintro e w' ⟨rfl, rfl⟩
          go_wp2_with fail
          refine (hRLow _ hx6).mono ?_
          rintro e w' ⟨rfl, rfl⟩
          by_cases hbig : 4096 < j
          · have hd0 : val BB xs / 2 ^ j.toNat = 0 := by
              exact Nat.div_eq_of_lt (Nat.lt_of_lt_of_le hlt.out (pow64_ge (by omega)))
            have hsx : capF (val BB xs * 2 ^ j.toNat) = (0, 2) := by
              exact capF_ge (Nat.not_lt.2 (Nat.le_trans (pow64_ge (show 4096 ≤ j.toNat by omega)) (Nat.le_mul_of_pos_left _ (by omega))))
            rw [hSC.out, hsx] at hS
            rw [hDC.out, hd0] at hD
            obtain ⟨rfl, rfl⟩ := Prod.mk.inj hS
            obtain ⟨rfl, rfl⟩ := Prod.mk.inj hD
            obtain ⟨As, ns, cs, rfl, hsr⟩ := hs6
            obtain ⟨Ad, nd, cd, rfl, hdr⟩ := hd6
            have hns : ns = 0 := by rw [← hsr.len]; rfl
            have hnd : nd = 0 := by rw [← hdr.len]; rfl
            subst hns hnd
            clear hS hD hd0 hsx
            go_wp2_with fail
            refine (told_then HT.out hb06).mono ?_
            rintro e w7 ⟨rfl, hb7⟩
            go_wp2_with fail
            go_ret
            exact ⟨rfl, hb7⟩
          · rw [hSC.out] at hS
            rw [hDC.out, ← capF_lt (div_cap hlt.out _)] at hD
            have HS := hide hS
            have HD := hide hD
            have hXb : blen (val BB xs * 2 ^ j.toNat) ≤ 1000000 := by rw [blen_mul_pow hv0]; have := HVB.out; omega
            have hDb : blen (val BB xs / 2 ^ j.toNat) ≤ 1000000 := Nat.le_trans (blen_mono (Nat.div_le_self _ _)) (Nat.le_trans HVB.out (by omega))
            have HXB := hide hXb
            have HDB := hide hDb
            have HJ := hide (show 0 ≤ j ∧ j ≤ 1000000 by omega)
            clear hS hD hXb hDb hSC hDC hv0 hRLow hLow hBits hLen hmay htb
            go_wp2_with fail
            refine (told1_any _ (HT.out.below hb06)).mono ?_
            rintro e w7 ⟨rfl, hb7⟩
            have hs7 := hs6.below hb7
            have hd7 := hd6.below hb7
            have hx7 := hx6.below hb7
            have hb07 := below_then hb06 hb7
            clear hs6 hd6 hx6 hb06 hb7
            go_wp2_with fail
            refine (rshl_int Ax nx cx (val BB xs) j _ hx7 (by omega) HJ.out.1 HJ.out.2).mono ?_
            rintro e w8 ⟨uy, rfl, hy, hb8⟩
            go_wp2_with fail
            refine (is_R us _ sp sq (val BB xs * 2 ^ j.toNat) _ HS.out (hs7.below hb8) hy HXB.out).mono ?_
            rintro e w9 ⟨rfl, hb9⟩
            have hb89 := below_then hb8 hb9
            have hd9 := hd7.below hb89
            have hx9 := hx7.below hb89
            have hb09 := below_then hb07 hb89
            clear hs7 hd7 hx7 hb07 hb8 hb9 hy hb89
            go_wp2_with fail
            refine (rshr_int Ax nx cx (val BB xs) j _ hx9 (by omega) HJ.out.1 HJ.out.2).mono ?_
            rintro e w10 ⟨uy, rfl, hy, hb10⟩
            go_wp2_with fail
            refine (is_R ud _ dp dq (val BB xs / 2 ^ j.toNat) _ HD.out (hd9.below hb10) hy HDB.out).mono ?_
            rintro e w11 ⟨rfl, hb11⟩
            go_wp2_with fail
            go_ret
            exact ⟨rfl, below_then hb09 (below_then hb10 hb11)⟩
  · go_enter Tryd.func6, Tryd.ntmps6
    go_wp2_with fail
    refine (few_any A n c xs _ h).mono ?_
    rw [few_no (by omega)]
    rintro e w' ⟨rfl, rfl⟩
    go_wp2_with fail
    refine (told_then HT.out (Below.refl _ _)).mono ?_
    rintro e w1 ⟨rfl, hb1⟩
    go_wp2
    go_ret
    exact ⟨rfl, hb1⟩
end Go.Proofs.YtdnknokhcliikaaDoor
