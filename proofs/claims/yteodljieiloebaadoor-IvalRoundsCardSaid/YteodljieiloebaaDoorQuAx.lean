/- The whole quotient (nat.QuoRem): its plain law. The whole quotient (nat.QuoRem): the walk. The inner functions of nat over values that read as naturals; the whole quotient. -/
import Derived.Test.YteodljieiloebaaDoorDigAx
import Derived.Test.YteodljieiloebaaDoorNatGx
namespace Go.Proofs.YteodljieiloebaaDoor
open Go.RowKit Pl

/-- The shift that makes the top limb's first bit 1. -/
theorem top_bits {ys : List Nat} (hl : Lim BB ys) (hc : Cnl ys) (hn : 1 ≤ ys.length) {t s : Nat} (ht : t = nth ys (ys.length - 1)) (hs : s = 64 - blen t) :
    t < BB ∧ blen t ≤ 64 ∧ s ≤ 63 ∧ val BB ys * 2 ^ s < BB ^ ys.length ∧ BB ^ (ys.length - 1) ≤ val BB ys ∧ BB ^ (ys.length - 1) * 2 ^ 63 ≤ val BB ys * 2 ^ s := by
  have htl : t < BB := by rw [ht]; exact hl.getD BB_pos _
  have ht0 : t ≠ 0 := by
    intro h0
    apply hc
    rw [List.getLast?_eq_getElem?]
    rw [ht] at h0
    unfold nth at h0
    rw [List.getD_eq_getElem?_getD] at h0
    rw [List.getElem?_eq_getElem (by omega)] at h0 ⊢
    simpa using h0
  obtain ⟨w1, w2, w3, w4⟩ := norm_word ht0 htl
  rw [← hs] at w1 w2
  have h1 := val_top1 (b := BB) ys hn
  have h2 := val_lt (hl.take (ys.length - 1))
  rw [List.length_take, Nat.min_eq_left (by omega)] at h2
  have f1 : ys.getD (ys.length - 1) 0 = t := ht.symm
  rw [f1] at h1
  have h3 : val BB ys < BB ^ (ys.length - 1) * (t + 1) := by rw [Nat.mul_add, Nat.mul_one]; omega
  have h4 : (t + 1) * 2 ^ s ≤ BB := by
    have h5 := blen_lt_pow t
    have h6 : (t + 1) * 2 ^ s ≤ 2 ^ blen t * 2 ^ s := Nat.mul_le_mul_right _ h5
    rw [← Nat.pow_add, hs, show blen t + (64 - blen t) = 64 by omega, ← BB_eq] at h6
    rw [hs]
    exact h6
  refine ⟨htl, w3, by omega, ?_, ?_, ?_⟩
  · have h5 : val BB ys * 2 ^ s < BB ^ (ys.length - 1) * (t + 1) * 2 ^ s := (Nat.mul_lt_mul_right (Nat.two_pow_pos s)).2 h3
    rw [Nat.mul_assoc] at h5
    have h6 : BB ^ (ys.length - 1) * ((t + 1) * 2 ^ s) ≤ BB ^ (ys.length - 1) * BB := Nat.mul_le_mul_left _ h4
    rw [← Nat.pow_succ, show (ys.length - 1).succ = ys.length by omega] at h6
    omega
  · have h5 : BB ^ (ys.length - 1) * 1 ≤ BB ^ (ys.length - 1) * t := Nat.mul_le_mul_left _ (by omega)
    omega
  · have h5 : BB ^ (ys.length - 1) * 2 ^ 63 ≤ BB ^ (ys.length - 1) * (t * 2 ^ s) := Nat.mul_le_mul_left _ w2
    have h6 : BB ^ (ys.length - 1) * t * 2 ^ s ≤ val BB ys * 2 ^ s := Nat.mul_le_mul_right _ (by omega)
    rw [Nat.mul_assoc] at h6
    omega
/-- A number as so many limbs. -/
theorem pad_val (X k : Nat) : val BB (limbs BB X ++ List.replicate k 0) = X := by
  rw [val_append, limbs_val BB_gt1, val_zeros, Nat.mul_zero, Nat.add_zero]
theorem pad_lim (X k : Nat) : Lim BB (limbs BB X ++ List.replicate k 0) := (limbs_lim BB_gt1 X).append (Lim.zeros BB_pos k)
theorem quo_top {X Y s l n m : Nat} {us0 : List Nat} (hX : X < BB ^ l) (hY : BB ^ (n - 1) ≤ Y) (hnl : n ≤ l) (hn : 1 ≤ n) (hm : m = l - n + 1) (hl : us0.length = l + 1) (hlim : Lim BB us0) (hv : val BB us0 = X * 2 ^ s) :
    val BB (us0.drop m) < Y * 2 ^ s := by
  rw [val_drop_div BB_gt1 hlim (by omega), hv, Nat.div_lt_iff_lt_mul (Nat.pow_pos BB_pos)]
  have h1 : X * 2 ^ s < BB ^ l * 2 ^ s := (Nat.mul_lt_mul_right (Nat.two_pow_pos s)).2 hX
  have h2 : BB ^ (n - 1) * BB ^ m ≤ Y * BB ^ m := Nat.mul_le_mul_right _ hY
  rw [← Nat.pow_add, show n - 1 + m = l by omega] at h2
  have h3 : BB ^ l * 2 ^ s ≤ Y * BB ^ m * 2 ^ s := Nat.mul_le_mul_right _ h2
  rw [Nat.mul_right_comm] at h3
  omega
/-- What the limb's walk asks of the piece. -/
theorem quo_tops {V n J : Nat} {us0 us q vs : List Nat} (h : QuoInv BB V us0 us q n (J + 1)) (hn2 : 2 ≤ n) (hlv : vs.length = n) (hvs : Lim BB vs) (hvv : val BB vs = V) (hV : V < BB ^ n) (hVt : BB ^ (n - 1) ≤ V) (hJ : J < q.length) :
    Tops BB ((us.drop J).take (n + 1)) vs := by
  have hlq := h.lenq
  have hlu := h.len
  have hab := h.above hV hJ
  refine ⟨by omega, by rw [seg_len (by omega), hlv], (h.lim.drop _).take _, hvs, ?_, ?_⟩
  · have h1 := val_top1 (b := BB) vs (by omega)
    have h2 := val_lt (hvs.take (vs.length - 1))
    rw [List.length_take, Nat.min_eq_left (by omega), hlv] at h2
    rw [hlv, hvv] at h1
    rw [hlv]
    rcases Nat.eq_zero_or_pos (vs.getD (n - 1) 0) with h0 | h0
    · rw [h0, Nat.mul_zero, Nat.add_zero] at h1
      omega
    · exact h0
  · rw [hab.1, hvv]
    exact h.small BB_pos (by omega)
theorem quo_end {X Y s n : Nat} {us0 us q : List Nat} (h : QuoInv BB (Y * 2 ^ s) us0 us q n 0) (hv : val BB us0 = X * 2 ^ s) (hY0 : 0 < Y) (hV : Y * 2 ^ s < BB ^ n) (hnu : n ≤ us.length) :
    val BB q = X / Y ∧ val BB (us.take n) / 2 ^ s = X % Y := by
  obtain ⟨h1, h2⟩ := h.last
  rw [hv] at h1 h2
  rw [Nat.mul_div_mul_right _ _ (Nat.two_pow_pos s)] at h1
  rw [Nat.mul_mod_mul_right] at h2
  refine ⟨h1, ?_⟩
  have h3 := val_take_drop (b := BB) us n
  rw [Nat.min_eq_left hnu] at h3
  have h4 : val BB us < BB ^ n := by
    rw [h2]
    have : (X % Y) * 2 ^ s < Y * 2 ^ s := (Nat.mul_lt_mul_right (Nat.two_pow_pos s)).2 (Nat.mod_lt _ hY0)
    omega
  have h5 : val BB (us.drop n) = 0 := by
    rcases Nat.eq_zero_or_pos (val BB (us.drop n)) with h0 | h0
    · exact h0
    · have : BB ^ n * 1 ≤ BB ^ n * val BB (us.drop n) := Nat.mul_le_mul_left _ h0
      omega
  rw [h5, Nat.mul_zero, Nat.add_zero] at h3
  rw [← h3, h2, Nat.mul_div_cancel _ (Nat.two_pow_pos s)]
end Go.Proofs.YteodljieiloebaaDoor
namespace Go.Proofs.YteodljieiloebaaDoor
open Go.RowKit Pl

set_option maxRecDepth 100000 in
set_option maxHeartbeats 4000000 in
theorem quorem_less (A : Option Addr) (n c : Nat) (xs : List Nat) (B : Option Addr) (m d : Nat) (ys : List Nat) (w : World) (h : RdN .u64 w A n c xs) (k : RdN .u64 w B m d ys) (hl : Lim BB xs) (kl : Lim BB ys) (hx : Cnl xs) (hy : Cnl ys) (hn : n ≤ 50000) (hlt : val BB xs < val BB ys) :
    Calls Tryd.prog 66 #[.slice A n c, .slice B m d] w fun e w' => Two w' e (val BB xs / val BB ys) (val BB xs % val BB ys) ∧ Below w.heap.size w w' := by
  have hc := cmpL_val BB_gt1 hl kl hx hy
  unfold cmpN at hc
  rw [if_pos hlt] at hc
  rw [Nat.div_eq_of_lt hlt, Nat.mod_eq_of_lt hlt]
  have hlim : limbs BB (val BB xs) = xs := limbs_of BB_gt1 hl hx rfl
  go_enter Tryd.func66, Tryd.ntmps66
  go_wp2_with fail
  refine (order_any A n c xs _ m d ys _ h k).mono ?_
  rw [hc]
  rintro e w1 ⟨rfl, hb1⟩
  go_wp2_with fail
  refine (clone_any A n c xs _ (h.below hb1) (by omega)).mono ?_
  rintro e w2 ⟨v, rfl, hown, hb2⟩
  obtain ⟨A', c', rfl⟩ := own_slice hown
  go_wp2
  go_ret2
  refine ⟨⟨_, _, rfl, R64.nil _, ⟨_, _, _, rfl, ?_⟩⟩, below_then hb1 hb2⟩
  rw [hlim]
  exact RdN.of_own hown

set_option maxRecDepth 100000 in
set_option maxHeartbeats 4000000 in
theorem quorem_long (A : Option Addr) (n c : Nat) (xs : List Nat) (B : Option Addr) (m d : Nat) (ys : List Nat) (w : World) (h : RdN .u64 w A n c xs) (k : RdN .u64 w B m d ys) (hl : Lim BB xs) (kl : Lim BB ys) (hx : Cnl xs) (hy : Cnl ys) (hn : n ≤ 50000) (hm : 2 ≤ m) (hge : val BB ys ≤ val BB xs) :
    Calls Tryd.prog 66 #[.slice A n c, .slice B m d] w fun e w' => Two w' e (val BB xs / val BB ys) (val BB xs % val BB ys) ∧ Below w.heap.size w w' := by
  have hc := cmpL_val BB_gt1 hl kl hx hy
  have hlen := h.len
  have klen := k.len
  have hcap := h.cap
  have hmax := h.max
  have kcap := k.cap
  have kmax := k.max
  unfold maxLen at hmax kmax
  have hmn : m ≤ n := by have := can_len hl kl hy hge; omega
  have hd : decide (cmpL xs ys < 0) = false := by rw [hc]; unfold cmpN; rw [if_neg (by omega)]; split <;> rfl
  have hr := cmpL_range xs ys
  obtain ⟨q, hq⟩ : ∃ q, q = cmpL xs ys := ⟨_, rfl⟩
  rw [← hq] at hd hr
  have HQ := hide hq
  clear hq hc
  obtain ⟨b0, off, rfl, hb0, hcl⟩ := k.at_ (by omega)
  obtain ⟨t, ht⟩ : ∃ t, t = nth ys (ys.length - 1) := ⟨_, rfl⟩
  obtain ⟨s, hs⟩ : ∃ s, s = 64 - blen t := ⟨_, rfl⟩
  obtain ⟨htl, hbt, hs63, hVl, hYl, hVt⟩ := top_bits kl hy (by omega) ht hs
  have hXl := val_lt hl
  rw [klen] at hVl hYl hVt ht
  rw [hlen] at hXl
  have hcell := hcl (m - 1) (by omega)
  rw [← ht] at hcell
  have hsI : (64 : Int) - (blen t : Int) = (s : Int) := by omega
  have HLz := hide (fun w => lz_any t htl w)
  rw [hsI] at HLz
  obtain ⟨X, hX⟩ : ∃ X, X = val BB xs := ⟨_, rfl⟩
  obtain ⟨Y, hY⟩ : ∃ Y, Y = val BB ys := ⟨_, rfl⟩
  rw [← hY] at hVl hYl hVt
  rw [← hX] at hXl
  rw [← hX, ← hY]
  have HX := hide hX
  have HY := hide hY
  have hY0 : 0 < Y := Nat.lt_of_lt_of_le (Nat.pow_pos BB_pos) hYl
  have i1 : ((m : Int) - 1).toNat = m - 1 := by omega
  have i2 : (1 : Int) ≤ (m : Int) := by omega
  have e1 : ((m : Int) == 1) = false := by rw [beq_eq_false_iff_ne]; omega
  have HVl := hide hVl
  have HYl := hide hYl
  have HVt := hide hVt
  have HXl := hide hXl
  clear hVl hYl hVt hXl hX hY hs hsI hbt ht htl hcl hge
  go_enter Tryd.func66, Tryd.ntmps66
  go_wp2_with fail
  refine (order_any A n c xs _ m d ys _ h k).mono ?_
  rw [← HQ.out]
  rintro e w1 ⟨rfl, hb1⟩
  have hcell1 := ((bcell hb1).1 b0 (off + (m - 1)) hb0).trans hcell
  have h1 := h.below hb1
  have k1 := k.below hb1
  clear hcell h k
  go_wp2_with fail
  refine (HLz.out _).mono ?_
  rintro e w' ⟨rfl, rfl⟩
  go_wp2_with fail
  refine (left_any _ m d ys s _ k1 kl (by omega) (by omega)).mono ?_
  rintro e w2 ⟨Av, nv, cv, rfl, hv, hb2⟩
  rw [← HY.out] at hv
  have hnv : nv ≤ m := hv.len_limb HVl.out
  have h2 := h1.below hb2
  have hb02 := below_then hb1 hb2
  clear h1 k1 hb1 hb2 hcell1
  go_wp2_with fail
  refine (padded_any Av nv cv _ m _ hv hnv (by omega)).mono ?_
  rintro e w3 ⟨uv, rfl, hov, hb3⟩
  have h3 := h2.below hb3
  have hb03 := below_then hb02 hb3
  have hlv := own_len hov
  have hvlt : ∀ k, uv.ownBlock = some k → k < w3.heap.size := fun k hk => (hov.lt k hk).2
  clear h2 hb02 hv
  go_wp2_with fail
  refine (left_any _ n c xs s _ h3 hl (by omega) (by omega)).mono ?_
  rintro e w4 ⟨Au, nu, cu, rfl, hu, hb4⟩
  rw [← HX.out] at hu
  have hnu : nu ≤ n + 1 := by
    refine hu.len_limb ?_
    have e : X * 2 ^ s < BB ^ n * 2 ^ s := (Nat.mul_lt_mul_right (Nat.two_pow_pos s)).2 HXl.out
    have e2 : BB ^ n * 2 ^ s ≤ BB ^ n * BB := Nat.mul_le_mul_left _ (by rw [BB_eq]; exact Nat.pow_le_pow_right (by omega) (by omega))
    rw [← Nat.pow_succ] at e2
    exact Nat.lt_of_lt_of_le e e2
  have hov4 := own_below hov hb4
  have hb04 := below_then hb03 hb4
  have hb04s := hb04.size
  clear h3 hov hb03
  have EN : Hid ((n : Int) + 1 = ((n + 1 : Nat) : Int)) := by unfold Hid; omega
  go_wp2_with fail
  rw [EN.out]
  refine (padded_any Au nu cu _ (n + 1) _ hu hnu (by omega)).mono ?_
  rintro e w5 ⟨uu, rfl, hou, hb5⟩
  have hov5 := own_below hov4 hb5
  have hb05 := below_then hb04 hb5
  have hb05s := hb05.size
  have hlu := own_len hou
  have hsz : w3.heap.size ≤ w4.heap.size := hb4.size
  have hb02s : w.heap.size ≤ w4.heap.size := hb04s
  clear hov4 hb04 hu hb4 EN
  obtain ⟨vs, hvs⟩ : ∃ vs, vs = limbs BB (Y * 2 ^ s) ++ List.replicate (m - nv) 0 := ⟨_, rfl⟩
  obtain ⟨us0, hus⟩ : ∃ us, us = limbs BB (X * 2 ^ s) ++ List.replicate (n + 1 - nu) 0 := ⟨_, rfl⟩
  have HVs : Hid (Lim BB vs) := by unfold Hid; rw [hvs]; exact pad_lim _ _
  have HVv : Hid (val BB vs = Y * 2 ^ s) := by unfold Hid; rw [hvs]; exact pad_val _ _
  have HUs : Hid (Lim BB us0) := by unfold Hid; rw [hus]; exact pad_lim _ _
  have HUv : Hid (val BB us0 = X * 2 ^ s) := by unfold Hid; rw [hus]; exact pad_val _ _
  rw [← hvs] at hov5 hlv
  rw [← hus] at hou hlu
  clear hvs hus
  obtain ⟨Av, cv, rfl⟩ := own_slice hov5
  obtain ⟨gv, rfl, hgv⟩ := own_some hov5 (by omega)
  obtain ⟨Au, cu, rfl⟩ := own_slice hou
  obtain ⟨gu, rfl, hgu⟩ := own_some hou (by omega)
  have hgv3 : gv < w3.heap.size := hvlt gv rfl
  have hgu5 : gu < w5.heap.size := (hou.lt gu rfl).2
  have hgv5 : gv < w5.heap.size := (hov5.lt gv rfl).2
  have hcu1 := (RdN.of_own hou).cap
  have hcu2 := (RdN.of_own hou).max
  have hcv1 := (RdN.of_own hov5).cap
  have hcv2 := (RdN.of_own hov5).max
  unfold maxLen at hcu2 hcv2
  have hne : gv ≠ gu := by omega
  have hgw : w.heap.size ≤ gu := by have := hb02s; omega
  clear hvlt hgv3 hsz hb3 hb5
  have es : (n : Int) - (m : Int) = ((n - m : Nat) : Int) := by omega
  obtain ⟨i0, hi, hz0, hz1, hz2⟩ := info_parts info_u64
  go_wp2_with (at_make; refine wpList_make_full _ rfl _ _ 24 rfl w5.heap.size 58 i0 _ 1 Tryd.underlying24 hi hz0 hz1 .i64 .i64 _ _ (n - m + 1) rfl rfl ?c1 ?c2 ?c3 ?c4 ?c5 ?_)
  case c1 => omega
  case c2 => omega
  case c3 => rw [hz2]; omega
  case c4 => unfold maxLen; omega
  case c5 => exact Nat.le_refl _
  intro w6 hoq hg6
  rw [made_u64] at hoq
  have hb6 : Below w5.heap.size w5 w6 := (Below.refl _ _).grown hg6 (Nat.le_refl _) (by simp)
  have hov6 := own_below hov5 hb6
  have hou6 := own_below hou hb6
  have hb06 := below_then hb05 hb6
  clear hov5 hou hb05 hg6 hb6 hi hz0 hz1 hz2
  have hnq : w5.heap.size ≠ gu := by omega
  have hnv : w5.heap.size ≠ gv := by omega
  have hbq : w.heap.size ≤ w5.heap.size := hb05s
  have HT := hide (quo_top HXl.out HYl.out hmn (show 1 ≤ m by omega) (rfl : n - m + 1 = n - m + 1) hlu HUs.out HUv.out)
  have hV0 : 0 < Y * 2 ^ s := Nat.mul_pos hY0 (Nat.two_pow_pos s)
  have HVt2 : Hid (BB ^ (m - 1) ≤ Y * 2 ^ s) := Nat.le_trans (Nat.le_mul_of_pos_right _ (by omega)) HVt.out
  obtain ⟨V, hV⟩ : ∃ V, V = Y * 2 ^ s := ⟨_, rfl⟩
  rw [← hV] at HT hV0 HVt2 HVl HVv
  have HV := hide hV
  obtain ⟨M, hM⟩ : ∃ M, M = n - m + 1 := ⟨_, rfl⟩
  rw [← hM] at HT hoq
  have hM1 : n - m = M - 1 := by omega
  have hMp : 1 ≤ M := by omega
  have hMm : M + m = n + 1 := by omega
  have hMI : Hid ((n : Int) - (m : Int) = (M : Int) - 1) := by unfold Hid; omega
  have EM2 : Hid (n - m + 1 = M) := hM.symm
  clear hV hM es HVt HLz HQ hd hr hlen klen
  go_wp2_with fail
  rw [EM2.out, hMI.out]
  clear EM2 hM1 hMI
  go_loopw [11] (fun j wr => ∃ (K : Nat) (us q : List Nat), K ≤ M ∧ j = .int .i64 ((K : Int) - 1) ∧ Hid (QuoInv BB V us0 us q m K) ∧
    wr.ownsRow w4.heap.size 58 1 (.slice (some ⟨gu, 0, none⟩) (n + 1) cu) (n + 1) (U .u64 us) ∧ wr.ownsRow w5.heap.size 58 1 (.slice (some ⟨w5.heap.size, 0, none⟩) M M) M (U .u64 q) ∧
    wr.ownsRow w2.heap.size 58 1 (.slice (some ⟨gv, 0, none⟩) m cv) m (U .u64 vs) ∧ Below w.heap.size w wr) (fun j _ => (intOf j + 1).toNat)
  case atStart => exact ⟨M, us0, _, Nat.le_refl _, rfl, hide (QuoInv.start BB_gt1 HUs.out (by omega) HT.out), hou6, hoq, hov6, hb06⟩
  case round =>
    obtain ⟨K, us, q, hK, rfl, hinv, hou, hoq, hov, hbw⟩ := hrel
    have hlu2 := own_len hou
    have hlq := own_len hoq
    rcases Nat.eq_zero_or_pos K with rfl | hpos
    · have hfin := hinv.out
      rw [HV.out] at hfin
      have hVl' := HVl.out
      rw [HV.out] at hVl'
      obtain ⟨f1, f2⟩ := quo_end hfin HUv.out hY0 hVl' (by omega)
      have hlq2 : Lim BB q := hinv.out.limq
      have hlu3 : Lim BB (us.take m) := hinv.out.lim.take m
      have hrq := RdN.of_own hoq
      have hru := (RdN.of_own hou).take (m := m) (by omega)
      have hqt : RdN .u64 wr (some ⟨w5.heap.size, 0, none⟩) (trimL q).length M (trimL q) := by
        have h2 := hrq.take (m := (trimL q).length) (by have := trimL_len q; omega)
        rwa [← trimL_take] at h2
      have hut : RdN .u64 wr (some ⟨gu, 0, none⟩) (trimL (us.take m)).length cu (trimL (us.take m)) := by
        have h2 := hru.take (m := (trimL (us.take m)).length) (by have := trimL_len (us.take m); have := hru.len; omega)
        rwa [← trimL_take] at h2
      have hlt3 := trimL_lim hlu3
      have hut1 : (trimL (us.take m)).length ≤ 100000 := by have := hut.len; have := trimL_len (us.take m); have := hru.len; omega
      have F1 : Hid (trimL q = limbs BB (X / Y)) := by unfold Hid; rw [trimL_limbs BB_gt1 hlq2, f1]
      have F2 : Hid (val BB (trimL (us.take m)) / 2 ^ s = X % Y) := by unfold Hid; rw [trimL_val]; exact f2
      have hml := hru.len
      clear hfin hVl' f1 f2 hinv hou hoq hov
      have z1 : (0 : Int) ≤ (m : Int) := by omega
      have z2 : (m : Int) ≤ (cu : Int) := by omega
      go_upto_region 12 with fail
      go_region_held3 (fun w' => Below wr.heap.size wr w') (first | exact (Below.refl _ _).drew | assumption | exact below_then (by assumption) hbA)
        (first
          | (go_at_call 100; (with_reducible refine (trim_any (some ⟨w5.heap.size, 0, none⟩) M M q _ (hrq.below (by assumption))).mono ?_); rintro z wA ⟨rfl, rfl⟩)
          | (go_at_call 100; (with_reducible refine (trim_any (some ⟨gu, 0, none⟩) m cu (us.take m) _ (hru.below (by assumption))).mono ?_); rintro z wA ⟨rfl, rfl⟩)
          | (go_at_call 101; (with_reducible refine (right_any (some ⟨gu, 0, none⟩) _ cu (trimL (us.take m)) s _ (hut.below (by assumption)) hlt3 (by omega) (by omega)).mono ?_); rintro z wA ⟨AR, nR, cR, rfl, hrR, hbA⟩))
      all_goals
        have hq9 := hqt.below (by first | exact hbA | exact (Below.refl _ _).drew.trans hbA | exact below_then (by assumption) hbA)
        have hb9 := below_then hbw (by first | exact hbA | exact (Below.refl _ _).drew.trans hbA | exact below_then (by assumption) hbA)
        rw [F2.out] at hrR
        go_wp2
        go_ret2
        exact ⟨⟨_, _, rfl, ⟨_, _, _, rfl, by rw [← F1.out]; exact hq9⟩, ⟨_, _, _, rfl, hrR⟩⟩, hb9⟩
    · obtain ⟨J, rfl⟩ : ∃ J, K = J + 1 := ⟨K - 1, by omega⟩
      have ej : (((J + 1 : Nat) : Int) - 1) = (J : Int) := by omega
      rw [ej]
      clear ej
      have hJM : J < M := by omega
      go_wp2_with fail
      rw [show J + m + 1 - J = m + 1 by omega]
      have hTp := quo_tops hinv.out hm hlv HVs.out HVv.out HVl.out HVt2.out (by omega)
      have hcv : ∀ k, k < m → wr.cell? ⟨gv, 0 + k, none⟩ = some (.int .u64 (nth vs k : Nat)) := fun k hk => by rw [Nat.zero_add]; exact own_cell hov k hk
      refine (digit_any _ gu J m (n + 1) cu (cu - J) us vs gv 0 cv wr hou (by omega) (by omega) ⟨by omega, by omega⟩ hlv ⟨by omega, by omega⟩ (hov.lt gv rfl).2 hcv hne hTp).mono ?_
      rintro e w7 ⟨seg, rfl, hsg1, hsg2, hsg3, hou7, hg7⟩
      rw [HVv.out] at hsg3 ⊢
      have hoq7 := hoq.kept hg7 (.inr (by simp [Value.ownBlock]; exact hnq))
      have hov7 := hov.kept hg7 (.inr (by simp [Value.ownBlock]; exact hne))
      have hb7 := below_only hbw hg7 hgw hbw.size
      have HSt := hide (hinv.out.step BB_gt1 hV0 HVl.out (by omega) hsg1 hsg2 hsg3)
      obtain ⟨dg, hdg⟩ : ∃ dg, dg = val BB ((us.drop J).take (m + 1)) / V := ⟨_, rfl⟩
      rw [← hdg] at HSt ⊢
      have he : emb us J seg = us.take J ++ (seg ++ us.drop (J + (m + 1))) := by unfold emb; rw [hsg1]
      rw [← he] at HSt
      have hA := own_cell hoq7 J (by omega)
      have fA := hoq7.frozenAt J
      clear hTp hcv hsg3 hg7 hdg he hou hoq hov hbw hinv
      have hO1 := only_set (only_refl w7 w5.heap.size) J (.int .u64 (dg : Int))
      have hou8 := hou7.kept hO1 (.inr (by simp [Value.ownBlock]; omega))
      have hov8 := hov7.kept hO1 (.inr (by simp [Value.ownBlock]; omega))
      go_wp2
      go_roundw
      case rel => exact ⟨J, _, _, by omega, rfl, HSt, hou8, own_set hoq7 J dg, hov8, hb7.setCell hbq _⟩
      case measure => simp [intOf]
end Go.Proofs.YteodljieiloebaaDoor
namespace Go.Proofs.YteodljieiloebaaDoor
open Go.RowKit Pl

section
variable (u v : Value) (X Y : Nat) (w : World) (h : R64 w u X) (k : R64 w v Y) (hX : blen X ≤ 3000000) (hY : blen Y ≤ 3000000)
include h k hX in
theorem quoI (hY0 : 0 < Y) : Calls Tryd.prog 66 #[u, v] w fun e w' => Two w' e (X / Y) (X % Y) ∧ Below w.heap.size w w' := by
  obtain ⟨A, n, c, rfl, hr, hn⟩ := h.limb
  obtain ⟨B, m, d, rfl, kr, km⟩ := k.limb
  have hxl := limbs_lim BB_gt1 X
  have hyl := limbs_lim BB_gt1 Y
  have hxc := limbs_can BB_gt1 X
  have hyc := limbs_can BB_gt1 Y
  have hxv := limbs_val BB_gt1 X
  have hyv := limbs_val BB_gt1 Y
  have hn5 : n ≤ 50000 := by have := limb_len (show blen X ≤ 64 * 50000 by omega); omega
  by_cases hlt : X < Y
  · have h1 := quorem_less A n c _ B m d _ w hr kr hxl hyl hxc hyc hn5 (by rw [hxv, hyv]; exact hlt)
    rw [hxv, hyv] at h1
    exact h1
  · by_cases h1 : m ≤ 1
    · have hYB : Y < BB := by
        have h2 := (limbs_len_le BB_gt1 (n := Y) (k := 1)).1 (by omega)
        rwa [Nat.pow_one] at h2
      have e : limbs BB Y = [Y] := limbs_of BB_gt1 (Lim.cons hYB Lim.nil) (by simp [Cnl]; omega) (by simp)
      rw [e] at kr km
      obtain rfl : m = 1 := km.symm
      have h2 := quorem_one A n c _ B d Y w hr kr hxl hxc (by omega) hY0 hYB
      rw [hxv] at h2
      exact h2
    · have h2 := quorem_long A n c _ B m d _ w hr kr hxl hyl hxc hyc hn5 (by omega) (by rw [hxv, hyv]; omega)
      rw [hxv, hyv] at h2
      exact h2
end
/-- The root's first guess, and each further one. -/
theorem newton_start {a : Nat} (_h0 : 0 < a) : nroot a ≤ 2 ^ ((blen a + 1) / 2) := by
  obtain ⟨h1, _⟩ := nroot_spec a
  have h2 := blen_lt_pow a
  rcases Nat.lt_or_ge (2 ^ ((blen a + 1) / 2)) (nroot a) with h | h
  · exfalso
    have h3 : 2 ^ ((blen a + 1) / 2) * 2 ^ ((blen a + 1) / 2) ≤ nroot a * nroot a := Nat.mul_le_mul (by omega) (by omega)
    rw [← Nat.pow_add] at h3
    have h4 : 2 ^ blen a ≤ 2 ^ ((blen a + 1) / 2 + (blen a + 1) / 2) := Nat.pow_le_pow_right (by omega) (by omega)
    omega
  · exact h
theorem newton_end {a x : Nat} (hx : 0 < x) (hle : nroot a ≤ x) (h : x ≤ (x + a / x) / 2) : x = nroot a := by
  have h1 := newton_done hx h
  obtain ⟨_, h3⟩ := nroot_spec a
  rcases Nat.lt_or_ge (nroot a) x with h4 | h4
  · have h5 : (nroot a + 1) * (nroot a + 1) ≤ x * x := Nat.mul_le_mul h4 h4
    omega
  · omega
theorem nroot_pos {a : Nat} (h : 0 < a) : 0 < nroot a := by
  obtain ⟨_, h3⟩ := nroot_spec a
  rcases Nat.eq_zero_or_pos (nroot a) with h0 | h0
  · rw [h0] at h3; omega
  · exact h0
theorem nroot_zero : nroot 0 = 0 := rfl
end Go.Proofs.YteodljieiloebaaDoor
