/- Contracts of the document's answer sluicewayref1, part K: Div, Root. Printed by wip/mk_RfK.py. -/
import Derived.Test.YteodljieiloebaaDoorRfJx
import Derived.Test.YteodljieiloebaaDoorSqAx
namespace Go.Proofs.YteodljieiloebaaDoor
open Go.RowKit Pl

theorem dig_lenX {X k : Nat} (h : blen X ≤ 16 * k) : (limbs DD X).length ≤ k := by
  rw [limbs_len_le DD_gt1, pow_DD]
  exact blen_le.1 h
theorem dig_top {X J : Nat} (h : J < blen X) : J / 16 < (limbs DD X).length := by
  have h1 := val_lt (limbs_lim DD_gt1 X)
  rw [limbs_val DD_gt1, pow_DD, ← blen_le] at h1
  omega
theorem R16.dig {w : World} {u : Value} {X : Nat} (h : R16 w u X) : ∃ A n c, u = .slice A n c ∧ RdN .u32 w A n c (limbs DD X) ∧ (limbs DD X).length = n := by
  obtain ⟨A, n, c, hu, hr⟩ := h
  exact ⟨A, n, c, hu, hr, hr.len⟩
section
variable (u : Value) (X : Nat) (w : World) (h : R16 w u X) (hX : blen X ≤ 1500000)
include h hX in
theorem rbitsR : Calls Tryd.prog 29 #[u] w fun e w' => e = .returned (.int .i64 (blen X : Nat)) ∧ w = w' := by
  obtain ⟨A, n, c, rfl, hr, hn⟩ := h.dig
  exact rbitsX A n c X w hr (by have := dig_lenX (show blen X ≤ 16 * 100000 by omega); omega)
include h hX in
theorem rshlR (j : Nat) (hj : j ≤ 1000000) : Calls Tryd.prog 75 #[u, .int .i64 (j : Int)] w fun e w' => (∃ z, e = .returned z ∧ R16 w' z (X * 2 ^ j)) ∧ Below w.heap.size w w' := by
  obtain ⟨A, n, c, rfl, hr, hn⟩ := h.dig
  exact (rshl_any A n c X j w hr (by have := dig_lenX (show blen X ≤ 16 * 100000 by omega); omega) hj).mono fun e w' ⟨v, he, hv, hb⟩ => ⟨⟨v, he, hv⟩, hb⟩
include h hX in
theorem rshrR (j : Nat) (hj : j ≤ 1000000) : Calls Tryd.prog 92 #[u, .int .i64 (j : Int)] w fun e w' => (∃ z, e = .returned z ∧ R16 w' z (X / 2 ^ j)) ∧ Below w.heap.size w w' := by
  obtain ⟨A, n, c, rfl, hr, hn⟩ := h.dig
  exact (rshr_any A n c X j w hr (by have := dig_lenX (show blen X ≤ 16 * 100000 by omega); omega) hj).mono fun e w' ⟨v, he, hv, hb⟩ => ⟨⟨v, he, hv⟩, hb⟩
include h in
theorem bitR (i : Nat) (hi : i ≤ 1000000000) : Calls Tryd.prog 116 #[u, .int .i64 (i : Int)] w fun e w' => e = .returned (.int .u32 ((X / 2 ^ i % 2 : Nat) : Int)) ∧ w = w' := by
  obtain ⟨A, n, c, rfl, hr, hn⟩ := h.dig
  exact bit_any A n c X i w hr hi
end
theorem rd1u {W : World} {b : Nat} {t : TypeId} (x : Nat) (h : Box W b [.int .u32 (x : Int)] t) (h0 : 0 < x) (hx : x < DD) : R16 W (.slice (some ⟨b, 0, none⟩) 1 1) x :=
  ⟨_, _, _, rfl, by
    rw [limbs_of DD_gt1 (Lim.cons hx Lim.nil) (by simp [Cnl]; omega) (by simp [val] : val DD [x] = x)]
    exact ⟨rfl, Nat.le_refl _, by unfold maxLen; omega, fun _ => ⟨b, 0, rfl, h.lt, fun k hk => by
      obtain rfl : k = 0 := by omega
      exact h.cell 0 rfl⟩⟩⟩
theorem or_bit {x r : Nat} (hr : r < 16) (hx : x < DD) (h : x % 2 ^ (r + 1) = 0) : bits .or .u32 (x : Int) ((2 : Int) ^ r % 4294967296) = ((x + 2 ^ r : Nat) : Int) := by
  have h2 : (2 : Nat) ^ r < 2 ^ (r + 1) := Nat.pow_lt_pow_right (by omega) (by omega)
  have h3 : (2 : Nat) ^ r < 2 ^ 16 := Nat.pow_lt_pow_right (by omega) hr
  have e : ((2 : Int) ^ r) = ((2 ^ r : Nat) : Int) := by rw [Int.natCast_pow]; rfl
  unfold DD at hx
  rw [e, show ((2 ^ r : Nat) : Int) % 4294967296 = ((2 ^ r : Nat) : Int) by omega, u32_or_nat _ _ (by omega) (by omega), nat_join (r + 1) _ _ h h2]

set_option maxRecDepth 100000 in
set_option maxHeartbeats 8000000 in
theorem rdiv_any (u v : Value) (X Y : Nat) (w : World) (h : R16 w u X) (k : R16 w v Y) (hX : blen X ≤ 900000) (hY : blen Y ≤ 900000) (hY0 : 0 < Y) :
    Calls Tryd.prog 105 #[u, v] w fun e w' => (∃ p q, e = .returned (.tuple #[p, q]) ∧ R16 w' p (X / Y) ∧ R16 w' q (X % Y)) ∧ Below w.heap.size w w' := by
  obtain ⟨A, n, c, rfl, hr, hn⟩ := h.dig
  have hmax := hr.max
  have hcap := hr.cap
  unfold maxLen at hmax
  have hn1 : n ≤ 100000 := by have := dig_lenX (show blen X ≤ 16 * 100000 by omega); omega
  obtain ⟨i0, hi, hz0, hz1, hz2⟩ := info_parts info_u32
  have HX : Hid (blen X ≤ 1500000) := by unfold Hid; omega
  have HXv : Hid (X < 2 ^ blen X) := blen_lt_pow X
  have HTop : Hid (∀ J, J < blen X → J / 16 < n) := fun J hJ => by rw [← hn]; exact dig_top hJ
  have HY : Hid (blen Y ≤ 900000) := hY
  clear hr hn hcap hmax hY
  go_enter Tryd.func105, Tryd.ntmps105
  go_wp2_with fail
  refine (rbitsR _ X _ h HX.out).mono ?_
  rintro e w' ⟨rfl, rfl⟩
  obtain ⟨B, hB⟩ : ∃ B, B = blen X := ⟨_, rfl⟩
  rw [← hB] at hX HXv HTop ⊢
  clear hB
  go_wp2_with (at_make; refine wpList_make_full _ rfl _ _ 46 rfl w.heap.size 75 i0 _ 1 Tryd.underlying46 hi hz0 hz1 .i64 .i64 _ _ n rfl rfl ?c1 ?c2 ?c3 ?c4 ?c5 ?_)
  case c1 => omega
  case c2 => omega
  case c3 => rw [hz2]; omega
  case c4 => unfold maxLen; omega
  case c5 => exact Nat.le_refl _
  intro w1 hown1 hg1
  rw [made_u32] at hown1
  have hb1 : Below w.heap.size w w1 := (Below.refl _ _).grown hg1 (Nat.le_refl _) (by simp)
  have hl0 : Lim DD (List.replicate n 0) := Lim.zeros DD_pos n
  have hv0 : val DD (List.replicate n 0) = 0 := val_zeros n
  clear hi hz0 hz1 hz2 hg1
  go_wp2
  go_loopw [8, 9] (fun r i wr => ∃ (K Q R : Nat) (qs : List Nat), K ≤ B ∧ i = .int .i64 ((K : Int) - 1) ∧ Hid (DivInv X Y Q R K) ∧ Hid (Lim DD qs ∧ val DD qs = Q * 2 ^ K) ∧ R16 wr r R ∧
    wr.ownsRow w.heap.size 75 1 (.slice (some ⟨w.heap.size, 0, none⟩) n n) n (U .u32 qs) ∧ Below w.heap.size w wr) (fun _ i _ => (intOf i + 1).toNat)
  case atStart => exact ⟨B, 0, 0, _, Nat.le_refl _, rfl, hide (DivInv.start HXv.out hY0), ⟨hl0, by rw [hv0, Nat.zero_mul]⟩, R16.nil _, hown1, hb1⟩
  case round =>
    obtain ⟨K, Q, R, qs, hK, rfl, hinv, hqs, hrr, hown, hbw⟩ := hrel
    have hRY : R < Y := hinv.out.rest
    rcases Nat.eq_zero_or_pos K with rfl | hpos
    · obtain ⟨f1, f2⟩ := hinv.out.last
      have hv : Hid (val DD qs = X / Y) := by unfold Hid; rw [hqs.out.2, f1, Nat.pow_zero, Nat.mul_one]
      have hl := hqs.out.1
      have hrd := RdN.of_own hown
      have F2 := hide f2
      clear f1 f2 hRY hqs hinv HTop
      go_wp2_with (go_at_call 60; refine (rtrim_any _ _ _ _ _ hrd).mono ?_; rintro e w' ⟨A2, c2, rfl, hr2, rfl⟩)
      go_ret2
      refine ⟨⟨_, _, rfl, ⟨_, _, _, rfl, ?_⟩, by rw [← F2.out]; exact hrr⟩, hbw⟩
      rw [trimL_limbs DD_gt1 hl, hv.out] at hr2 ⊢
      exact hr2
    · obtain ⟨J, rfl⟩ : ∃ J, K = J + 1 := ⟨K - 1, by omega⟩
      have ej : (((J + 1 : Nat) : Int) - 1) = (J : Int) := by omega
      rw [ej]
      clear ej
      have HJ : Hid (J / 16 < n) := HTop.out J (by omega)
      have HRb : Hid (blen R ≤ 900000) := Nat.le_trans (blen_mono (Nat.le_of_lt hRY)) HY.out
      have hu := h.below hbw
      have hv := k.below hbw
      have hJ9 : J ≤ 1000000 := by omega

      go_wp2_with fail
      refine (rshlR _ R _ hrr (Nat.le_trans HRb.out (by omega)) 1 (by omega)).mono ?_
      rintro e w2 ⟨⟨r1, rfl, hr1⟩, hb2⟩
      rw [Nat.pow_one] at hr1
      have hu2 := hu.below hb2
      have hv2 := hv.below hb2
      have hown2 := own_below hown hb2
      have hbw2 := below_then hbw hb2
      have HR2b : Hid (blen (R * 2) ≤ 900001) := by
        unfold Hid
        rw [Nat.mul_two]
        exact blen_plus HRb.out HRb.out
      clear hu hv hown hbw hb2 hrr
      go_wp2_with fail
      refine (bitR _ X _ hu2 J (by omega)).mono ?_
      rintro e w' ⟨rfl, rfl⟩
      obtain ⟨t, ht⟩ : ∃ t, t = X / 2 ^ J % 2 := ⟨_, rfl⟩
      have ht2 : t < 2 := by rw [ht]; exact Nat.mod_lt _ (by omega)
      have HHi := hide (hinv.out.step_hi (B := Y) (A := X) (i := J))
      have HLo := hide (hinv.out.step_lo (B := Y) (A := X) (i := J))
      rw [← ht] at HHi HLo ⊢
      clear ht hinv
      rcases (show t = 1 ∨ t = 0 by omega) with rfl | rfl
      · obtain ⟨hA, hb3⟩ := box_1 w2 [.int .u32 1] 75
        go_wp2_with fail
        generalize (w2.alloc (.cells #[.int .u32 1] 75)) = W3 at *
        refine (radd_any _ _ (R * 2) 1 _ (hr1.below hb3) (rd1u 1 hA (by omega) DD_gt1) (by have := HR2b.out; omega) (by decide)).mono ?_
        rintro e w4 ⟨r2, rfl, hr2, hb4⟩
        have hb34 := below_then hb3 hb4
        have hu4 := hu2.below hb34
        have hv4 := hv2.below hb34
        have hown4 := own_below hown2 hb34
        have hbw4 := below_then hbw2 hb34
        clear hu2 hv2 hown2 hbw2 hb34 hb3 hb4 hA hr1
        have HSb : Hid (blen (R * 2 + 1) ≤ 1000000) := Nat.le_trans (blen_plus HR2b.out (show blen 1 ≤ 900001 by decide)) (by omega)
        go_wp2_with fail
        refine (rcmpR _ _ (R * 2 + 1) Y _ hr2 hv4).mono ?_
        rintro e w5 ⟨rfl, hb5⟩
        have hu5 := hu4.below hb5
        have hv5 := hv4.below hb5
        have hr5 := hr2.below hb5
        have hown5 := own_below hown4 hb5
        have hbw5 := below_then hbw4 hb5
        clear hu4 hv4 hown4 hbw4 hb5 hr2
        rcases Nat.lt_or_ge (R * 2 + 1) Y with hlt | hge
        · have hc : cmpN (R * 2 + 1) Y = -1 := by unfold cmpN; rw [if_pos hlt]
          rw [hc]
          have hst := hide (HLo.out (by omega))
          have hq2 : Hid (Lim DD qs ∧ val DD qs = 2 * Q * 2 ^ J) := ⟨hqs.out.1, clear_bit hqs.out.2⟩
          have e9 : 2 * R + 1 = (R * 2 + 1) := by omega
          rw [e9] at hst
          clear hc hqs HHi HLo HTop
          go_wp2
          go_roundw
          case rel => exact ⟨J, _, _, qs, by omega, rfl, hst, hq2, hr5, hown5, hbw5⟩
          case measure => simp [intOf]
        · have hc : decide (cmpN (R * 2 + 1) Y ≥ 0) = true := by
            unfold cmpN
            rw [if_neg (by omega)]
            split <;> rfl
          obtain ⟨z, hz⟩ : ∃ z, z = cmpN (R * 2 + 1) Y := ⟨_, rfl⟩
          rw [← hz] at hc ⊢
          clear hz
          have hst := hide (HHi.out (by omega))
          have e9 : 2 * R + 1 - Y = (R * 2 + 1) - Y := by omega
          rw [e9] at hst
          clear HHi HLo HTop e9
          go_wp2_with fail
          refine (rsub_new _ _ (R * 2 + 1) Y _ hr5 hv5 (by have := HSb.out; omega) hge).mono ?_
          rintro e w6 ⟨r3, rfl, hr3, hb6⟩
          obtain ⟨A3, n3, c3, rfl, hr3, hfresh⟩ := hr3
          have hown6 := own_below hown5 hb6
          have hbw6 := below_then hbw5 hb6
          obtain ⟨s1, s2, s3⟩ := set_bit hqs.out.1 (by rw [own_len hown6]; exact HJ.out) hqs.out.2
          have hgl : w.heap.size < w5.heap.size := (hown5.lt w.heap.size rfl).2
          have hA := own_cell hown6 (J / 16) HJ.out
          have fA := hown6.frozenAt (J / 16)
          have hOr : bits .or .u32 (nth qs (J / 16) : Int) ((2 : Int) ^ (J % 16) % 4294967296) = ((nth qs (J / 16) + 2 ^ (J % 16) : Nat) : Int) := or_bit (Nat.mod_lt _ (by omega)) (hqs.out.1.getD DD_pos _) s3
          have hq2 : Hid (Lim DD (qs.set (J / 16) (nth qs (J / 16) + 2 ^ (J % 16))) ∧ val DD (qs.set (J / 16) (nth qs (J / 16) + 2 ^ (J % 16))) = (2 * Q + 1) * 2 ^ J) := ⟨s1, s2⟩
          have i1 : ((J : Int) / 16).toNat = J / 16 := by omega
          have i2 : (J : Int) / 16 < (n : Int) := by have := HJ.out; omega
          have i3 : (0 : Int) ≤ (J : Int) / 16 := by omega
          have HOr := hide hOr
          have hr7 : R16 (w6.setCell ⟨w.heap.size, J / 16, none⟩ (.int .u32 ((nth qs (J / 16) + 2 ^ (J % 16) : Nat) : Int))) (.slice A3 n3 c3) ((R * 2 + 1) - Y) := by
            refine ⟨_, _, _, rfl, hr3.len, hr3.cap, hr3.max, fun h0 => ?_⟩
            obtain ⟨b, off, rfl, hb, hcl⟩ := hr3.at_ h0
            have hne := hfresh h0 _ rfl
            simp only at hne
            refine ⟨b, off, rfl, by simpa [World.setCell] using hb, fun j hj => ?_⟩
            rw [World.cell?_setCell_other _ _ _ _ (by intro e; injection e with e; omega)]
            exact hcl j hj
          clear hqs s1 s2 s3 hc hr5 hu5 hv5 hown5 hbw5 hb6 hOr hfresh hr3 hgl
          go_wp2
          rw [HOr.out]
          go_roundw
          case rel => exact ⟨J, _, _, _, by omega, rfl, hst, hq2, hr7, own_set hown6 (J / 16) _, hbw6.setCell (Nat.le_refl _) _⟩
          case measure => simp [intOf]
      · have hu4 := hu2
        have hv4 := hv2
        have hown4 := hown2
        have hbw4 := hbw2
        have hr2 := hr1
        clear hu2 hv2 hown2 hbw2 hr1
        have HSb : Hid (blen (R * 2) ≤ 1000000) := Nat.le_trans HR2b.out (by omega)
        go_wp2_with fail
        refine (rcmpR _ _ (R * 2) Y _ hr2 hv4).mono ?_
        rintro e w5 ⟨rfl, hb5⟩
        have hu5 := hu4.below hb5
        have hv5 := hv4.below hb5
        have hr5 := hr2.below hb5
        have hown5 := own_below hown4 hb5
        have hbw5 := below_then hbw4 hb5
        clear hu4 hv4 hown4 hbw4 hb5 hr2
        rcases Nat.lt_or_ge (R * 2) Y with hlt | hge
        · have hc : cmpN (R * 2) Y = -1 := by unfold cmpN; rw [if_pos hlt]
          rw [hc]
          have hst := hide (HLo.out (by omega))
          have hq2 : Hid (Lim DD qs ∧ val DD qs = 2 * Q * 2 ^ J) := ⟨hqs.out.1, clear_bit hqs.out.2⟩
          have e9 : 2 * R + 0 = (R * 2) := by omega
          rw [e9] at hst
          clear hc hqs HHi HLo HTop
          go_wp2
          go_roundw
          case rel => exact ⟨J, _, _, qs, by omega, rfl, hst, hq2, hr5, hown5, hbw5⟩
          case measure => simp [intOf]
        · have hc : decide (cmpN (R * 2) Y ≥ 0) = true := by
            unfold cmpN
            rw [if_neg (by omega)]
            split <;> rfl
          obtain ⟨z, hz⟩ : ∃ z, z = cmpN (R * 2) Y := ⟨_, rfl⟩
          rw [← hz] at hc ⊢
          clear hz
          have hst := hide (HHi.out (by omega))
          have e9 : 2 * R + 0 - Y = (R * 2) - Y := by omega
          rw [e9] at hst
          clear HHi HLo HTop e9
          go_wp2_with fail
          refine (rsub_new _ _ (R * 2) Y _ hr5 hv5 (by have := HSb.out; omega) hge).mono ?_
          rintro e w6 ⟨r3, rfl, hr3, hb6⟩
          obtain ⟨A3, n3, c3, rfl, hr3, hfresh⟩ := hr3
          have hown6 := own_below hown5 hb6
          have hbw6 := below_then hbw5 hb6
          obtain ⟨s1, s2, s3⟩ := set_bit hqs.out.1 (by rw [own_len hown6]; exact HJ.out) hqs.out.2
          have hgl : w.heap.size < w5.heap.size := (hown5.lt w.heap.size rfl).2
          have hA := own_cell hown6 (J / 16) HJ.out
          have fA := hown6.frozenAt (J / 16)
          have hOr : bits .or .u32 (nth qs (J / 16) : Int) ((2 : Int) ^ (J % 16) % 4294967296) = ((nth qs (J / 16) + 2 ^ (J % 16) : Nat) : Int) := or_bit (Nat.mod_lt _ (by omega)) (hqs.out.1.getD DD_pos _) s3
          have hq2 : Hid (Lim DD (qs.set (J / 16) (nth qs (J / 16) + 2 ^ (J % 16))) ∧ val DD (qs.set (J / 16) (nth qs (J / 16) + 2 ^ (J % 16))) = (2 * Q + 1) * 2 ^ J) := ⟨s1, s2⟩
          have i1 : ((J : Int) / 16).toNat = J / 16 := by omega
          have i2 : (J : Int) / 16 < (n : Int) := by have := HJ.out; omega
          have i3 : (0 : Int) ≤ (J : Int) / 16 := by omega
          have HOr := hide hOr
          have hr7 : R16 (w6.setCell ⟨w.heap.size, J / 16, none⟩ (.int .u32 ((nth qs (J / 16) + 2 ^ (J % 16) : Nat) : Int))) (.slice A3 n3 c3) ((R * 2) - Y) := by
            refine ⟨_, _, _, rfl, hr3.len, hr3.cap, hr3.max, fun h0 => ?_⟩
            obtain ⟨b, off, rfl, hb, hcl⟩ := hr3.at_ h0
            have hne := hfresh h0 _ rfl
            simp only at hne
            refine ⟨b, off, rfl, by simpa [World.setCell] using hb, fun j hj => ?_⟩
            rw [World.cell?_setCell_other _ _ _ _ (by intro e; injection e with e; omega)]
            exact hcl j hj
          clear hqs s1 s2 s3 hc hr5 hu5 hv5 hown5 hbw5 hb6 hOr hfresh hr3 hgl
          go_wp2
          rw [HOr.out]
          go_roundw
          case rel => exact ⟨J, _, _, _, by omega, rfl, hst, hq2, hr7, own_set hown6 (J / 16) _, hbw6.setCell (Nat.le_refl _) _⟩
          case measure => simp [intOf]

set_option maxRecDepth 100000 in
set_option maxHeartbeats 8000000 in
theorem rroot_any (u : Value) (X : Nat) (w : World) (h : R16 w u X) (hX : blen X ≤ 400000) :
    Calls Tryd.prog 76 #[u] w fun e w' => (∃ z, e = .returned z ∧ R16 w' z (nroot X)) ∧ Below w.heap.size w w' := by
  have HX : Hid (blen X ≤ 1500000) := by unfold Hid; omega
  obtain ⟨B, hB⟩ : ∃ B, B = (blen X + 1) / 2 := ⟨_, rfl⟩
  have hB2 : B ≤ 200001 := by omega
  have EB : Hid (((blen X : Int) + 1) / 2 = (B : Int)) := by unfold Hid; omega
  have HS : Hid (RootInv X 0 (B + 1)) := by unfold Hid; rw [hB]; exact RootInv.start
  have HX4 : Hid (blen X ≤ 400000) := hX
  clear hB
  go_enter Tryd.func76, Tryd.ntmps76
  go_wp2_with fail
  refine (rbitsR _ X _ h HX.out).mono ?_
  rintro e w' ⟨rfl, rfl⟩
  go_wp2_with fail
  rw [EB.out]
  clear EB hX
  go_loopw [3, 4] (fun r i wr => ∃ (K R : Nat), K ≤ B + 1 ∧ i = .int .i64 ((K : Int) - 1) ∧ Hid (RootInv X R K) ∧ R16 wr r R ∧ Below w.heap.size w wr) (fun _ i _ => (intOf i + 1).toNat)
  case atStart => exact ⟨B + 1, 0, Nat.le_refl _, by simp, HS, R16.nil _, Below.refl _ _⟩
  case round =>
    obtain ⟨K, R, hK, rfl, hinv, hrr, hbw⟩ := hrel
    have HRb : Hid (blen R ≤ 400000) := by
      unfold Hid
      refine Nat.le_trans (blen_mono ?_) HX4.out
      have h1 := hinv.out.le
      rcases Nat.eq_zero_or_pos R with rfl | h0
      · omega
      · exact Nat.le_trans (Nat.le_mul_of_pos_left R h0) h1
    rcases Nat.eq_zero_or_pos K with rfl | hpos
    · have HL := hide hinv.out.last
      clear hinv
      go_wp2
      go_ret
      exact ⟨⟨_, rfl, by rw [← HL.out]; exact hrr⟩, hbw⟩
    · obtain ⟨J, rfl⟩ : ∃ J, K = J + 1 := ⟨K - 1, by omega⟩
      have ej : (((J + 1 : Nat) : Int) - 1) = (J : Int) := by omega
      rw [ej]
      clear ej
      have hu := h.below hbw
      have HHi := hide (hinv.out.hi)
      have HLo := hide (hinv.out.lo)
      obtain ⟨hA, hb1⟩ := box_1 wr [.int .u32 1] 75
      have hu1 := hu.below hb1
      have hr1 := hrr.below hb1
      have hbw1 := below_then hbw hb1
      clear hinv hbw hu
      go_wp2_with fail
      generalize (wr.alloc (.cells #[.int .u32 1] 75)) = W1 at *
      refine (rshlR _ 1 _ (rd1u 1 hA (by omega) DD_gt1) (by decide) J (by omega)).mono ?_
      rw [Nat.one_mul]
      rintro e w2 ⟨⟨p, rfl, hp⟩, hb2⟩
      have hu2 := hu1.below hb2
      have hr2 := hr1.below hb2
      have hbw2 := below_then hbw1 hb2
      clear hu1 hr1 hbw1 hb2 hb1 hA
      have HPb : Hid (blen (2 ^ J) ≤ 400000) := by
        unfold Hid
        have := blen_mul_pow (n := 1) (by omega) J
        rw [Nat.one_mul] at this
        have h1 : blen 1 = 1 := by decide
        omega
      have HTb : Hid (blen (R + 2 ^ J) ≤ 400001) := blen_plus HRb.out HPb.out
      go_wp2_with fail
      refine (radd_any _ _ R (2 ^ J) _ hr2 hp (by have := HRb.out; omega) (by have := HPb.out; omega)).mono ?_
      rintro e w3 ⟨t, rfl, ht, hb3⟩
      have hu3 := hu2.below hb3
      have hr3 := hr2.below hb3
      have hbw3 := below_then hbw2 hb3
      clear hu2 hr2 hbw2 hb3 hp
      obtain ⟨T, hT⟩ : ∃ T, T = R + 2 ^ J := ⟨_, rfl⟩
      rw [← hT] at ht HTb HHi HLo
      clear hT HPb
      go_wp2_with fail
      refine (rmul_any _ _ T T _ ht ht (by have := HTb.out; omega) (by have := HTb.out; omega)).mono ?_
      rintro e w4 ⟨s, rfl, hs, hb4⟩
      have hu4 := hu3.below hb4
      have hr4 := hr3.below hb4
      have ht4 := ht.below hb4
      have hbw4 := below_then hbw3 hb4
      clear hu3 hr3 hbw3 hb4 ht
      go_wp2_with fail
      refine (rcmpR _ _ (T * T) X _ hs hu4).mono ?_
      rintro e w5 ⟨rfl, hb5⟩
      have hr5 := hr4.below hb5
      have ht5 := ht4.below hb5
      have hbw5 := below_then hbw4 hb5
      clear hu4 hr4 ht4 hbw4 hb5 hs
      by_cases hle : T * T ≤ X
      · have hc : decide (cmpN (T * T) X ≤ 0) = true := by
          unfold cmpN
          split
          · rfl
          · rw [if_neg (by omega)]; rfl
        have hn := hide (HHi.out hle)
        obtain ⟨z, hz⟩ : ∃ z, z = cmpN (T * T) X := ⟨_, rfl⟩
        rw [← hz] at hc ⊢
        clear hz HHi HLo hle
        go_wp2
        go_roundw
        case rel => exact ⟨J, T, by omega, rfl, hn, ht5, hbw5⟩
        case measure => simp [intOf]
      · have hc : cmpN (T * T) X = 1 := by
          unfold cmpN
          rw [if_neg (by omega), if_pos (by omega)]
        have hn := hide (HLo.out hle)
        rw [hc]
        clear hc HHi HLo hle
        go_wp2
        go_roundw
        case rel => exact ⟨J, R, by omega, rfl, hn, hr5, hbw5⟩
        case measure => simp [intOf]
end Go.Proofs.YteodljieiloebaaDoor
