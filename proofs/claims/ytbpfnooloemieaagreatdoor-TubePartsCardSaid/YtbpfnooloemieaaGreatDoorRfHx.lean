/- Contracts of the document's answer sluicewayref1, part H: Limbs, Shr, bit, Low. Contracts of the document's answer sluicewayref1, part I: Add, Sub. Printed by wip/mk_RfI.py. -/
import Derived.Test.YtbpfnooloemieaaGreatDoorKitBx
import Derived.Test.YtbpfnooloemieaaGreatDoorNatDx
import Derived.Test.YtbpfnooloemieaaGreatDoorRfDx
import Derived.BigRegion
namespace Go.Proofs.YtbpfnooloemieaaGreatDoor
open Go.RowKit Pl

/-- A digit laid onto a limb. -/
theorem lay16 {x y r : Nat} (hx : x < DD) (hr : r < 4) (hy : y < DD ^ r) : bits .or .u64 (y : Int) (IntKind.u64.wrap (IntKind.u64.wrap (x : Int) * 2 ^ (16 * r))) = ((y + x * DD ^ r : Nat) : Int) := by
  have e : (2 : Nat) ^ (16 * r) = DD ^ r := by rw [Nat.pow_mul]; rfl
  have h1 := join_lt hx hr
  have h2 : y + x * DD ^ r < BB := by
    refine Nat.lt_of_lt_of_le (join_top hy hx) ?_
    rw [BB_DD]; exact Nat.pow_le_pow_right DD_pos (by omega)
  have h3 : ((x : Int) * 2 ^ (16 * r)) = ((x * DD ^ r : Nat) : Int) := by rw [← e, Int.natCast_mul, Int.natCast_pow]; rfl
  unfold BB at h1 h2
  have h4 : x < 65536 := hx
  rw [IntWalk.u64_in (x : Int) (by omega), h3, IntWalk.u64_in _ (by omega), u64_or_nat _ _ (by omega) h1, ← e, Nat.or_comm, nat_join (16 * r) _ _ (Nat.mul_mod_left _ _) (by rw [e]; exact hy), Nat.add_comm]

set_option maxRecDepth 100000 in
set_option maxHeartbeats 1000000 in
theorem limbs_any (A : Option Addr) (n c X : Nat) (w : World) (h : RdN .u32 w A n c (limbs DD X)) (hn : n ≤ 100000) :
    Calls Tryz.prog 140 #[.slice A n c] w fun e w' => ∃ v, e = .returned v ∧ R64 w' v X ∧ Below w.heap.size w w' := by
  obtain ⟨hlen, hcap, hmax, hat⟩ := h
  unfold maxLen at hmax
  obtain ⟨i0, hi, hz0, hz1, hz2⟩ := info_parts info_u64
  have hl : Lim DD (limbs DD X) := limbs_lim DD_gt1 X
  have hcn : Cnl (limbs DD X) := limbs_can DD_gt1 X
  have hval : val DD (limbs DD X) = X := limbs_val DD_gt1 X
  obtain ⟨xs, hxs⟩ : ∃ xs, xs = limbs DD X := ⟨_, rfl⟩
  rw [← hxs] at hlen hl hat hcn hval
  clear hxs
  subst hlen
  have HV := hide hval
  clear hval
  go_enter Tryz.func140, Tryz.ntmps140
  go_wp2
  go_loopw [3, 4] (fun v i wr => ∃ (k : Nat) (o : List Nat), k ≤ xs.length ∧ i = .int .i64 (k : Int) ∧ Hid (JoinInv xs o k) ∧
    wr.ownsRow w.heap.size 50 1 v o.length (U .u64 o) ∧ Below w.heap.size w wr) (fun _ i _ => xs.length - (intOf i).toNat)
  case atStart => exact ⟨0, [], Nat.zero_le _, rfl, hide (JoinInv.start xs), World.ownsRow_nil _ _ _ _, Below.refl _ _⟩
  case round =>
    obtain ⟨k, o, hk, rfl, hinv, hown, hbw⟩ := hrel
    have hol := hinv.out.len
    rcases Nat.lt_or_ge k xs.length with hlt | hge
    · obtain ⟨b, off, rfl, hb, hc⟩ := hat (by omega)
      have hx : nth xs k < DD := hl.getD DD_pos k
      by_cases h4 : k % 4 = 0
      · have d4 : (((k : Int) % 4) == 0) = true := by rw [beq_iff_eq]; omega
        have hnew := hide (hinv.out.new hl h4)
        go_wp2_with (at_builtin; refine wpList_append_own _ rfl _ _ 28 rfl w.heap.size 50 i0 (.int .u64 0) 1 8 Tryz.underlying28 hi hz0 hz1 hz2 rfl (by decide) _ _ _ rfl (hown.alloc _) ⟨wr.heap.size, 0, none⟩ 1 1 [.int .u64 0] rfl rfl ?c1 ?c2 ?c3 ?c4 ?c5 ?_)
        case c1 => exact new_one
        case c2 => exact one_int _ _
        case c3 => unfold maxLen; omega
        case c4 => omega
        case c5 => exact base_app hbw
        intro v' w1 hown1 hg1 _
        have hb1 := below_app hbw hown hg1
        rw [U_snoc _ _ _ 0 rfl] at hown1
        clear hown hbw hg1
        have el : o.length = k / 4 := by omega
        have hpos : 0 < (k + 3) / 4 + 1 := by omega
        obtain ⟨A', c', rfl⟩ := own_slice hown1
        obtain ⟨g, rfl, hg⟩ := own_some hown1 hpos
        have hA := own_cell hown1 (k / 4) (by omega)
        have fA := hown1.frozenAt (k / 4)
        have hcell := RdN.cellW hc hb hb1 k hlt
        have hy0 : nth (o ++ [0]) (k / 4) = 0 := by simp [nth, List.getD_eq_getElem?_getD, ← el]
        have HS := hide (lay16 (x := nth xs k) (y := nth (o ++ [0]) (k / 4)) (r := k % 4) hx (by omega) (by rw [hy0]; exact Nat.pow_pos DD_pos))
        have hset : Hid ((o ++ [0]).set (k / 4) (nth (o ++ [0]) (k / 4) + nth xs k * DD ^ (k % 4)) = o ++ [xs.getD k 0]) := by
          unfold Hid
          rw [hy0, h4, Nat.pow_zero, Nat.mul_one, Nat.zero_add, ← el, List.set_append_right _ _ (Nat.le_refl _)]
          simp [nth]
        have i1 : (0 : Int) ≤ (k : Int) / 4 := by omega
        have i2 : (k : Int) / 4 < (((k + 3) / 4 + 1 : Nat) : Int) := by omega
        have i3 : ((k : Int) / 4).toNat = k / 4 := by omega
        have H4 := hide h4
        clear hat hy0 el hol hpos h4
        go_wp2_with fail
        go_region
        rw [HS.out]
        clear HS hA fA hcell i1 i2 i3
        go_wp2
        go_roundw
        case rel => exact ⟨k + 1, _, by omega, by go_num, hnew, by
          have h5 := own_set hown1 (k / 4) (nth (o ++ [0]) (k / 4) + nth xs k * DD ^ (k % 4))
          rw [hset.out] at h5
          have el : (o ++ [xs.getD k 0]).length = (k + 3) / 4 + 1 := by rw [List.length_append, hinv.out.len]; rfl
          rw [el]
          exact h5, (hb1.setCell hg _).drew⟩
        case measure => simp [intOf]; omega
      · have d4 : (((k : Int) % 4) == 0) = false := by rw [beq_eq_false_iff_ne]; omega
        have hmore := hide (hinv.out.more hl h4)
        have hpos : 0 < o.length := by omega
        obtain ⟨A', c', rfl⟩ := own_slice hown
        obtain ⟨g, rfl, hg⟩ := own_some hown hpos
        have hA := own_cell hown (k / 4) (by omega)
        have fA := hown.frozenAt (k / 4)
        have hcell := RdN.cellW hc hb hbw k hlt
        have HS := hide (lay16 (x := nth xs k) (y := nth o (k / 4)) (r := k % 4) hx (by omega) (hinv.out.top h4))
        have i1 : (0 : Int) ≤ (k : Int) / 4 := by omega
        have i2 : (k : Int) / 4 < ((o.length : Nat) : Int) := by omega
        have i3 : ((k : Int) / 4).toNat = k / 4 := by omega
        clear hat hol hpos
        go_wp2_with fail
        go_region
        rw [HS.out]
        clear HS hA fA hcell i1 i2 i3
        go_wp2
        go_roundw
        case rel => exact ⟨k + 1, _, by omega, by go_num, hmore, by
          have h5 := own_set hown (k / 4) (nth o (k / 4) + nth xs k * DD ^ (k % 4))
          rw [List.length_set]
          exact h5, (hbw.setCell hg _).drew⟩
        case measure => simp [intOf]; omega
    · obtain rfl : k = xs.length := by omega
      have hlast := hide (hinv.out.last hl hcn)
      obtain ⟨A', c', rfl⟩ := own_slice hown
      have hrd := RdN.of_own hown
      clear hat
      go_wp2
      go_ret
      refine ⟨_, rfl, ⟨_, _, _, rfl, ?_⟩, hbw⟩
      rw [hlast.out, HV.out] at hrd ⊢
      exact hrd

theorem ret_u32 {a b : Int} (h : a = b) : Ending.returned (.int .u32 a) = .returned (.int .u32 b) := by rw [h]
theorem and1 {x r : Nat} (hx : x < DD) : bits .and .u32 ((x : Int) / 2 ^ r) 1 = ((x / 2 ^ r % 2 : Nat) : Int) := by
  have h1 : x / 2 ^ r < 4294967296 := by
    have := Nat.div_le_self x (2 ^ r)
    unfold DD at hx; omega
  have e : ((x : Int) / 2 ^ r) = ((x / 2 ^ r : Nat) : Int) := by rw [Int.natCast_ediv, Int.natCast_pow]; rfl
  have h2 := u32_and_nat (x / 2 ^ r) 1 h1 (by omega)
  rw [Nat.and_one_is_mod] at h2
  rw [e]
  exact h2

set_option maxRecDepth 100000 in
set_option maxHeartbeats 1000000 in
theorem bit_any (A : Option Addr) (n c X i : Nat) (w : World) (h : RdN .u32 w A n c (limbs DD X)) (hi : i ≤ 1000000000) :
    Calls Tryz.prog 146 #[.slice A n c, .int .i64 (i : Int)] w fun e w' => e = .returned (.int .u32 ((X / 2 ^ i % 2 : Nat) : Int)) ∧ w = w' := by
  obtain ⟨hlen, hcap, hmax, hat⟩ := h
  unfold maxLen at hmax
  have hl : Lim DD (limbs DD X) := limbs_lim DD_gt1 X
  have hval : val DD (limbs DD X) = X := limbs_val DD_gt1 X
  obtain ⟨xs, hxs⟩ : ∃ xs, xs = limbs DD X := ⟨_, rfl⟩
  rw [← hxs] at hlen hl hat hval
  clear hxs
  subst hlen
  have hb := bit_digit hl i
  rw [hval] at hb
  clear hval
  by_cases hlt : i / 16 < xs.length
  · obtain ⟨b, off, rfl, hb0, hc⟩ := hat (by omega)
    have hcell := hc (i / 16) hlt
    have hx : nth xs (i / 16) < DD := hl.getD DD_pos _
    have HB := hide hb
    have hr : i % 16 < 16 := Nat.mod_lt _ (by omega)
    have i3 : ((i : Int) / 16).toNat = i / 16 := by omega
    clear hat hc hb
    go_enter Tryz.func146, Tryz.ntmps146
    go_wp2
    go_ret
    refine ⟨ret_u32 ?_, rfl⟩
    rw [and1 hx, HB.out]
    rfl
  · have h0 : X / 2 ^ i % 2 = 0 := by
      rw [hb, List.getD_eq_getElem?_getD, List.getElem?_eq_none (by omega)]
      simp
    have H0 := hide h0
    clear hb h0 hat
    go_enter Tryz.func146, Tryz.ntmps146
    go_wp2
    go_ret
    exact ⟨by rw [H0.out]; rfl, rfl⟩

theorem bit_low {X k : Nat} (h0 : X ≠ 0) (h : k < tz X) : X / 2 ^ k % 2 = 0 := by
  obtain ⟨h1, _⟩ := odd_part h0
  rw [h1, show tz X = k + 1 + (tz X - k - 1) by omega, Nat.pow_add, Nat.pow_succ, Nat.mul_assoc, Nat.mul_assoc, Nat.mul_div_cancel_left _ (Nat.two_pow_pos k)]
  exact Nat.mul_mod_right _ _

set_option maxRecDepth 100000 in
set_option maxHeartbeats 1000000 in
theorem low_any (A : Option Addr) (n c X : Nat) (w : World) (h : RdN .u32 w A n c (limbs DD X)) (h0 : X ≠ 0) (hX : blen X ≤ 1000000) :
    Calls Tryz.prog 137 #[.slice A n c] w fun e w' => e = .returned (.int .i64 (tz X : Nat)) ∧ w = w' := by
  have ht := tz_lt_blen h0
  have hz : ∀ k, k < tz X → X / 2 ^ k % 2 = 0 := fun k hk => bit_low h0 hk
  have ho : X / 2 ^ tz X % 2 = 1 := (odd_part h0).2
  obtain ⟨t, et⟩ : ∃ t, t = tz X := ⟨_, rfl⟩
  rw [← et] at hz ho ht ⊢
  have ht2 : t ≤ 1000000 := by omega
  have hz' : ∀ k, k < t → ∀ w, RdN .u32 w A n c (limbs DD X) → Calls Tryz.prog 146 #[.slice A n c, .int .i64 (k : Int)] w fun e w' => e = .returned (.int .u32 0) ∧ w = w' := by
    intro k hk w h
    have := bit_any A n c X k w h (by omega)
    rw [hz k hk] at this
    exact this
  have ho' : ∀ w, RdN .u32 w A n c (limbs DD X) → Calls Tryz.prog 146 #[.slice A n c, .int .i64 (t : Int)] w fun e w' => e = .returned (.int .u32 1) ∧ w = w' := by
    intro w h
    have := bit_any A n c X t w h (by omega)
    rw [ho] at this
    exact this
  clear et ht hz ho hX h0
  go_enter Tryz.func137, Tryz.ntmps137
  go_wp2
  go_loop [3] (fun i => ∃ k : Nat, k ≤ t ∧ i = .int .i64 (k : Int)) (fun i => t - (intOf i).toNat)
  case atStart => exact ⟨0, Nat.zero_le _, rfl⟩
  case round =>
    obtain ⟨k, hk, rfl⟩ := hrel
    rcases Nat.lt_or_ge k t with hlt | hge
    · go_wp2_with (go_at_call 146; refine (hz' k hlt _ h).mono ?_; rintro e w' ⟨rfl, rfl⟩)
      go_round
      case rel => exact ⟨k + 1, by omega, by go_num⟩
      case measure => simp [intOf]; omega
    · obtain rfl : k = t := by omega
      go_wp2_with (go_at_call 146; refine (ho' _ h).mono ?_; rintro e w' ⟨rfl, rfl⟩)
      go_ret
      exact ⟨rfl, rfl⟩

theorem or32 {x y : Nat} (hx : x < DD) (hy : y < DD) : bits .or .u32 (x : Int) ((y : Int) * 65536 % 4294967296) = ((x + y * DD : Nat) : Int) := by
  have h1 : y * 65536 < 4294967296 := by unfold DD at hy; omega
  have h2 : x < 4294967296 := by unfold DD at hx; omega
  have h3 : ((y : Int) * 65536) = ((y * 65536 : Nat) : Int) := by omega
  rw [h3, show ((y * 65536 : Nat) : Int) % 4294967296 = ((y * 65536 : Nat) : Int) by omega, u32_or_nat _ _ h2 h1, Nat.or_comm, nat_join 16 _ _ (Nat.mul_mod_left _ _) hx, Nat.add_comm]
  rfl
theorem cut16 {z r : Nat} (hz : z < 4294967296) : bits .and .u32 ((z : Int) / 2 ^ r) 65535 = ((z / 2 ^ r % DD : Nat) : Int) := by
  have h1 : z / 2 ^ r < 4294967296 := by
    have := Nat.div_le_self z (2 ^ r)
    omega
  have e : ((z : Int) / 2 ^ r) = ((z / 2 ^ r : Nat) : Int) := by rw [Int.natCast_ediv, Int.natCast_pow]; rfl
  rw [e]
  exact and16 h1

set_option maxRecDepth 100000 in
set_option maxHeartbeats 1000000 in
theorem rshr_any (A : Option Addr) (n c X m : Nat) (w : World) (h : RdN .u32 w A n c (limbs DD X)) (hn : n ≤ 100000) (hm : m ≤ 1000000) :
    Calls Tryz.prog 138 #[.slice A n c, .int .i64 (m : Int)] w fun e w' => ∃ v, e = .returned v ∧ R16 w' v (X / 2 ^ m) ∧ Below w.heap.size w w' := by
  obtain ⟨hlen, hcap, hmax, hat⟩ := h
  unfold maxLen at hmax
  obtain ⟨i0, hi, hz0, hz1, hz2⟩ := info_parts info_u32
  have hl : Lim DD (limbs DD X) := limbs_lim DD_gt1 X
  have hval : val DD (limbs DD X) = X := limbs_val DD_gt1 X
  obtain ⟨xs, hxs⟩ : ∃ xs, xs = limbs DD X := ⟨_, rfl⟩
  rw [← hxs] at hlen hl hat hval
  clear hxs
  subst hlen
  have HV := hide hval
  clear hval
  by_cases h0 : xs.length ≤ m / 16
  · have hX := hide (shr_none hl h0)
    go_enter Tryz.func138, Tryz.ntmps138
    go_wp2
    go_ret
    exact ⟨_, rfl, by rw [← HV.out, hX.out]; exact R16.nil _, Below.refl _ _⟩
  · obtain ⟨b, off, rfl, hb, hc⟩ := hat (by omega)
    have hlt0 : m / 16 < xs.length := by omega
    obtain ⟨ys, hys⟩ : ∃ ys, ys = xs.drop (m / 16) := ⟨_, rfl⟩
    have hyl : ys.length + m / 16 = xs.length := by rw [hys, List.length_drop]; omega
    have hY : Lim DD ys := by rw [hys]; exact hl.drop _
    have hcy : ∀ k, k < ys.length → w.cell? ⟨b, off + (m / 16 + k), none⟩ = some (.int .u32 (nth ys k : Nat)) := by
      intro k hk
      rw [hys, nth_drop]
      exact hc _ (by omega)
    have HS : Hid (∀ o, val DD o = val DD ys / 2 ^ (m % 16) → val DD o = val DD xs / 2 ^ m) := hide (fun o h => by rw [hys] at h; exact shr_whole hl hlt0 h)
    clear hat hc h0 hys
    go_enter Tryz.func138, Tryz.ntmps138
    go_wp2
    go_loopw [5, 6] (fun v i wr => ∃ (k : Nat) (o : List Nat), k ≤ ys.length ∧ i = .int .i64 ((m / 16 + k : Nat) : Int) ∧ Hid (ShrInv ys o (m % 16) k) ∧
      wr.ownsRow w.heap.size 115 1 v k (U .u32 o) ∧ Below w.heap.size w wr) (fun _ i _ => xs.length - (intOf i).toNat)
    case atStart => exact ⟨0, [], Nat.zero_le _, by simp, hide (ShrInv.start ys (m % 16)), World.ownsRow_nil _ _ _ _, Below.refl _ _⟩
    case round =>
      obtain ⟨k, o, hk, rfl, hinv, hown, hbw⟩ := hrel
      rcases Nat.lt_or_ge k ys.length with hlt | hge
      · have hcell : wr.cell? ⟨b, off + (m / 16 + k), none⟩ = some (.int .u32 (nth ys k : Nat)) := (hbw.cell (p := ⟨b, off + (m / 16 + k), none⟩) hb).trans (hcy k hlt)
        have hx : nth ys k < DD := hY.getD DD_pos k
        have hr := Nat.mod_lt m (show 16 > 0 by omega)
        have hst := hide (hinv.out.step hY hr)
        by_cases hn1 : k + 1 < ys.length
        · have hcell2 : wr.cell? ⟨b, off + (m / 16 + k + 1), none⟩ = some (.int .u32 (nth ys (k + 1) : Nat)) := (hbw.cell (p := ⟨b, off + (m / 16 + k + 1), none⟩) hb).trans (hcy (k + 1) hn1)
          have hy : nth ys (k + 1) < DD := hY.getD DD_pos (k + 1)
          have HO := hide (or32 hx hy)
          go_upto_region 10 with fail
          rw [HO.out]
          obtain ⟨z, hz⟩ : ∃ z, z = nth ys k + nth ys (k + 1) * DD := ⟨_, rfl⟩
          have hzl : z < 4294967296 := by rw [hz]; unfold DD at hx hy ⊢; omega
          have hzr : rdigit (ys.getD k 0) (ys.getD (k + 1) 0) (m % 16) = z / 2 ^ (m % 16) % DD := by rw [hz]; rfl
          rw [← hz]
          have hst' := hst
          clear hz
          have HZ := hide hzr
          clear hzr hst hr HO hcell2 hcell hx hy
          go_wp2_with (at_builtin; refine wpList_append_own _ rfl _ _ 90 rfl w.heap.size 115 i0 (.int .u32 0) 1 4 Tryz.underlying90 hi hz0 hz1 hz2 rfl (by decide) _ _ _ rfl (hown.alloc _) ⟨wr.heap.size, 0, none⟩ 1 1 [.int .u32 (bits .and .u32 ((z : Int) / 2 ^ (m % 16)) 65535)] rfl rfl ?c1 ?c2 ?c3 ?c4 ?c5 ?_)
          case c1 => exact new_one
          case c2 => exact one_int _ _
          case c3 => unfold maxLen; omega
          case c4 => omega
          case c5 => exact base_app hbw
          intro v' w1 hown1 hg1 _
          have hb1 := below_app hbw hown hg1
          rw [U_snoc _ _ _ _ (cut16 (r := m % 16) hzl), ← HZ.out] at hown1
          clear hown hbw hg1
          go_wp2
          go_roundw
          case rel => exact ⟨k + 1, _, by omega, by go_num, hst', hown1, hb1⟩
          case measure => simp [intOf]; omega
        · go_upto_region 10 with fail
          obtain ⟨z, hz⟩ : ∃ z, z = nth ys k := ⟨_, rfl⟩
          have hzl : z < 4294967296 := by rw [hz]; unfold DD at hx; omega
          have hzr : rdigit (ys.getD k 0) (ys.getD (k + 1) 0) (m % 16) = z / 2 ^ (m % 16) % DD := by
            have e : ys.getD (k + 1) 0 = 0 := by simp [List.getD_eq_getElem?_getD, List.getElem?_eq_none (show ys.length ≤ k + 1 by omega)]
            rw [e, hz]
            unfold rdigit
            rw [Nat.zero_mul, Nat.add_zero]
            rfl
          rw [← hz]
          have hst' := hst
          clear hz
          have HZ := hide hzr
          clear hzr hst hr hcell hx
          go_wp2_with (at_builtin; refine wpList_append_own _ rfl _ _ 90 rfl w.heap.size 115 i0 (.int .u32 0) 1 4 Tryz.underlying90 hi hz0 hz1 hz2 rfl (by decide) _ _ _ rfl (hown.alloc _) ⟨wr.heap.size, 0, none⟩ 1 1 [.int .u32 (bits .and .u32 ((z : Int) / 2 ^ (m % 16)) 65535)] rfl rfl ?c1 ?c2 ?c3 ?c4 ?c5 ?_)
          case c1 => exact new_one
          case c2 => exact one_int _ _
          case c3 => unfold maxLen; omega
          case c4 => omega
          case c5 => exact base_app hbw
          intro v' w1 hown1 hg1 _
          have hb1 := below_app hbw hown hg1
          rw [U_snoc _ _ _ _ (cut16 (r := m % 16) hzl), ← HZ.out] at hown1
          clear hown hbw hg1
          go_wp2
          go_roundw
          case rel => exact ⟨k + 1, _, by omega, by go_num, hst', hown1, hb1⟩
          case measure => simp [intOf]; omega
      · obtain rfl : k = ys.length := by omega
        have hlast := hide (HS.out _ (hinv.out.last))
        have hlo := hinv.out.lim
        obtain ⟨A', c', rfl⟩ := own_slice hown
        have hrd := RdN.of_own hown
        go_wp2_with (go_at_call 136; refine (rtrim_any _ _ _ _ _ hrd).mono ?_; rintro e w' ⟨A2, c2, rfl, hr2, rfl⟩)
        go_ret
        refine ⟨_, rfl, ⟨_, _, _, rfl, ?_⟩, hbw⟩
        rw [trimL_limbs DD_gt1 hlo, hlast.out, HV.out] at hr2 ⊢
        exact hr2
end Go.Proofs.YtbpfnooloemieaaGreatDoor
namespace Go.Proofs.YtbpfnooloemieaaGreatDoor
open Go.RowKit Pl

/-- Digits that lie in memory of the call's own. -/
def New16 (w : World) (B : Nat) (v : Value) (X : Nat) : Prop := ∃ A n c, v = .slice A n c ∧ RdN .u32 w A n c (limbs DD X) ∧ (0 < n → ∀ b, A = some b → B ≤ b.block)
theorem New16.rd {w : World} {B X : Nat} {v : Value} (h : New16 w B v X) : R16 w v X := by
  obtain ⟨A, n, c, hv, hr, _⟩ := h
  exact ⟨A, n, c, hv, hr⟩

set_option maxRecDepth 100000 in
set_option maxHeartbeats 4000000 in
theorem radd_any (u v : Value) (X Y : Nat) (w : World) (h : R16 w u X) (k : R16 w v Y) (hX : blen X ≤ 1500000) (hY : blen Y ≤ 1500000) :
    Calls Tryz.prog 123 #[u, v] w fun e w' => ∃ z, e = .returned z ∧ R16 w' z (X + Y) ∧ Below w.heap.size w w' := by
  obtain ⟨A, n, c, rfl, hr⟩ := h
  obtain ⟨B, m, d, rfl, kr⟩ := k
  have hr' := hr
  have kr' := kr
  obtain ⟨hlen, hcap, hmax, hat⟩ := hr
  obtain ⟨klen, kcap, kmax, kat⟩ := kr
  unfold maxLen at hmax kmax
  obtain ⟨i0, hi, hz0, hz1, hz2⟩ := info_parts info_u32
  have hl : Lim DD (limbs DD X) := limbs_lim DD_gt1 X
  have kl : Lim DD (limbs DD Y) := limbs_lim DD_gt1 Y
  have hv : val DD (limbs DD X) = X := limbs_val DD_gt1 X
  have kv : val DD (limbs DD Y) = Y := limbs_val DD_gt1 Y
  have hn : (limbs DD X).length ≤ 100000 := by rw [hlen]; exact dig_len' hr' (show blen X ≤ 16 * 100000 by omega)
  have hm : (limbs DD Y).length ≤ 100000 := by rw [klen]; exact dig_len' kr' (show blen Y ≤ 16 * 100000 by omega)
  obtain ⟨xs, hxs⟩ : ∃ xs, xs = limbs DD X := ⟨_, rfl⟩
  obtain ⟨ys, hys⟩ : ∃ ys, ys = limbs DD Y := ⟨_, rfl⟩
  rw [← hxs] at hlen hl hat hv hn
  rw [← hys] at klen kl kat kv hm
  clear hxs hys hr' kr'
  subst hlen klen
  have HV : Hid (val DD xs = X) := hv
  have KV : Hid (val DD ys = Y) := kv
  obtain ⟨M, hM1, hM2, hM3⟩ : ∃ M, xs.length ≤ M ∧ ys.length ≤ M ∧ M ≤ 100000 := ⟨max xs.length ys.length, Nat.le_max_left _ _, Nat.le_max_right _ _, by omega⟩
  clear hv kv hX hY
  go_enter Tryz.func123, Tryz.ntmps123
  go_wp2
  go_loopw [5, 6, 7] (fun v q i wr => ∃ (k cy : Nat) (o : List Nat), k ≤ M + 1 ∧ (k ≤ M ∨ cy = 0) ∧ i = .int .i64 (k : Int) ∧ q = .int .u32 (cy : Int) ∧ Hid (AddInv DD xs ys o cy k) ∧
    wr.ownsRow w.heap.size 115 1 v k (U .u32 o) ∧ Below w.heap.size w wr) (fun _ _ i _ => M + 1 - (intOf i).toNat)
  case atStart => exact ⟨0, 0, [], Nat.zero_le _, .inl (Nat.zero_le _), rfl, rfl, hide (AddInv.start xs ys), World.ownsRow_nil _ _ _ _, Below.refl _ _⟩
  case round =>
    obtain ⟨k, cy, o, hk, hkc, rfl, rfl, hinv, hown, hbw⟩ := hrel
    have hcar : cy ≤ 1 := hinv.out.car
    have HS := hide (hinv.out.step DD_gt1 hl kl)
    rcases Nat.lt_or_ge k xs.length with hx | hx
    · rcases Nat.lt_or_ge k ys.length with hy | hy
      · obtain ⟨b, off, rfl, hb, hc⟩ := hat (by omega)
        have hcell := RdN.cellW hc hb hbw k hx
        have hxl : nth xs k < DD := hl.getD DD_pos k
        have ex : Hid (xs.getD k 0 = nth xs k) := rfl
        clear hc
        obtain ⟨b2, off2, rfl, hb2, hc2⟩ := kat (by omega)
        have hcell2 := RdN.cellW hc2 hb2 hbw k hy
        have hyl : nth ys k < DD := kl.getD DD_pos k
        have ey : Hid (ys.getD k 0 = nth ys k) := rfl
        clear hc2
        rw [ex.out, ey.out] at HS
        clear ex ey hat kat
        unfold DD at hxl
        unfold DD at hyl
        obtain ⟨s, hs⟩ : ∃ s, s = cy + nth xs k + nth ys k := ⟨_, rfl⟩
        rw [← hs] at HS
        have hsl : s < 4294967296 := by omega
        have hnx : k + 1 ≤ M ∨ s / DD = 0 := by unfold DD; omega
        have hkM : k ≤ M := by omega
        have ES : Hid ((cy : Int) + (nth xs k : Int) + (nth ys k : Int) = (s : Int)) := by unfold Hid; omega
        clear hkc
        go_upto_region 10 with fail
        rw [ES.out]
        clear hs ES hcar hcell hxl hcell2 hyl
        go_wp2_with (at_builtin; refine wpList_append_own _ rfl _ _ 90 rfl w.heap.size 115 i0 (.int .u32 0) 1 4 Tryz.underlying90 hi hz0 hz1 hz2 rfl (by decide) _ _ _ rfl (hown.alloc _) ⟨wr.heap.size, 0, none⟩ 1 1 [.int .u32 (bits .and .u32 (s : Int) 65535)] rfl rfl ?c1 ?c2 ?c3 ?c4 ?c5 ?_)
        case c1 => exact new_one
        case c2 => exact one_int _ _
        case c3 => unfold maxLen; omega
        case c4 => omega
        case c5 => exact base_app hbw
        intro v' w1 hown1 hg1 _
        have hb1 := below_app hbw hown hg1
        rw [U_snoc _ _ _ _ (and16 hsl)] at hown1
        clear hown hbw hg1
        go_wp2
        go_roundw
        case rel => exact ⟨k + 1, s / DD, _, by omega, hnx, by go_num, by simp [DD], HS, hown1, hb1⟩
        case measure => simp [intOf]; omega
      · obtain ⟨b, off, rfl, hb, hc⟩ := hat (by omega)
        have hcell := RdN.cellW hc hb hbw k hx
        have hxl : nth xs k < DD := hl.getD DD_pos k
        have ex : Hid (xs.getD k 0 = nth xs k) := rfl
        clear hc
        have ey : Hid (ys.getD k 0 = 0) := by unfold Hid; simp [List.getD_eq_getElem?_getD, List.getElem?_eq_none hy]
        rw [ex.out, ey.out] at HS
        clear ex ey hat kat
        unfold DD at hxl
        obtain ⟨s, hs⟩ : ∃ s, s = cy + nth xs k + 0 := ⟨_, rfl⟩
        rw [← hs] at HS
        have hsl : s < 4294967296 := by omega
        have hnx : k + 1 ≤ M ∨ s / DD = 0 := by unfold DD; omega
        have hkM : k ≤ M := by omega
        have ES : Hid ((cy : Int) + (nth xs k : Int) = (s : Int)) := by unfold Hid; omega
        clear hkc
        go_upto_region 10 with fail
        rw [ES.out]
        clear hs ES hcar hcell hxl
        go_wp2_with (at_builtin; refine wpList_append_own _ rfl _ _ 90 rfl w.heap.size 115 i0 (.int .u32 0) 1 4 Tryz.underlying90 hi hz0 hz1 hz2 rfl (by decide) _ _ _ rfl (hown.alloc _) ⟨wr.heap.size, 0, none⟩ 1 1 [.int .u32 (bits .and .u32 (s : Int) 65535)] rfl rfl ?c1 ?c2 ?c3 ?c4 ?c5 ?_)
        case c1 => exact new_one
        case c2 => exact one_int _ _
        case c3 => unfold maxLen; omega
        case c4 => omega
        case c5 => exact base_app hbw
        intro v' w1 hown1 hg1 _
        have hb1 := below_app hbw hown hg1
        rw [U_snoc _ _ _ _ (and16 hsl)] at hown1
        clear hown hbw hg1
        go_wp2
        go_roundw
        case rel => exact ⟨k + 1, s / DD, _, by omega, hnx, by go_num, by simp [DD], HS, hown1, hb1⟩
        case measure => simp [intOf]; omega
    · rcases Nat.lt_or_ge k ys.length with hy | hy
      · have ex : Hid (xs.getD k 0 = 0) := by unfold Hid; simp [List.getD_eq_getElem?_getD, List.getElem?_eq_none hx]
        obtain ⟨b2, off2, rfl, hb2, hc2⟩ := kat (by omega)
        have hcell2 := RdN.cellW hc2 hb2 hbw k hy
        have hyl : nth ys k < DD := kl.getD DD_pos k
        have ey : Hid (ys.getD k 0 = nth ys k) := rfl
        clear hc2
        rw [ex.out, ey.out] at HS
        clear ex ey hat kat
        unfold DD at hyl
        obtain ⟨s, hs⟩ : ∃ s, s = cy + 0 + nth ys k := ⟨_, rfl⟩
        rw [← hs] at HS
        have hsl : s < 4294967296 := by omega
        have hnx : k + 1 ≤ M ∨ s / DD = 0 := by unfold DD; omega
        have hkM : k ≤ M := by omega
        have ES : Hid ((cy : Int) + (nth ys k : Int) = (s : Int)) := by unfold Hid; omega
        clear hkc
        go_upto_region 10 with fail
        rw [ES.out]
        clear hs ES hcar hcell2 hyl
        go_wp2_with (at_builtin; refine wpList_append_own _ rfl _ _ 90 rfl w.heap.size 115 i0 (.int .u32 0) 1 4 Tryz.underlying90 hi hz0 hz1 hz2 rfl (by decide) _ _ _ rfl (hown.alloc _) ⟨wr.heap.size, 0, none⟩ 1 1 [.int .u32 (bits .and .u32 (s : Int) 65535)] rfl rfl ?c1 ?c2 ?c3 ?c4 ?c5 ?_)
        case c1 => exact new_one
        case c2 => exact one_int _ _
        case c3 => unfold maxLen; omega
        case c4 => omega
        case c5 => exact base_app hbw
        intro v' w1 hown1 hg1 _
        have hb1 := below_app hbw hown hg1
        rw [U_snoc _ _ _ _ (and16 hsl)] at hown1
        clear hown hbw hg1
        go_wp2
        go_roundw
        case rel => exact ⟨k + 1, s / DD, _, by omega, hnx, by go_num, by simp [DD], HS, hown1, hb1⟩
        case measure => simp [intOf]; omega
      · rcases Nat.eq_zero_or_pos cy with h0 | hpos
        · subst h0
          have hlast := hide (hinv.out.last hx hy)
          have hlo := hinv.out.lim
          obtain ⟨A', c', rfl⟩ := own_slice hown
          have hrd := RdN.of_own hown
          clear HS hat kat
          go_wp2_with (go_at_call 136; refine (rtrim_any _ _ _ _ _ hrd).mono ?_; rintro e w' ⟨A2, c2, rfl, hr2, rfl⟩)
          go_ret
          refine ⟨_, rfl, ⟨_, _, _, rfl, ?_⟩, hbw⟩
          rw [trimL_limbs DD_gt1 hlo, hlast.out, HV.out, KV.out] at hr2 ⊢
          exact hr2
        · have ex : Hid (xs.getD k 0 = 0) := by unfold Hid; simp [List.getD_eq_getElem?_getD, List.getElem?_eq_none hx]
          have ey : Hid (ys.getD k 0 = 0) := by unfold Hid; simp [List.getD_eq_getElem?_getD, List.getElem?_eq_none hy]
          rw [ex.out, ey.out] at HS
          clear ex ey hat kat
          obtain ⟨s, hs⟩ : ∃ s, s = cy + 0 + 0 := ⟨_, rfl⟩
          rw [← hs] at HS
          have hsl : s < 4294967296 := by omega
          have hnx : k + 1 ≤ M ∨ s / DD = 0 := by unfold DD; omega
          have hkM : k ≤ M := by omega
          have ES : Hid ((cy : Int) = (s : Int)) := by unfold Hid; omega
          have hcy : (0 : Int) < (cy : Int) := by omega
          clear hkc
          go_upto_region 10 with fail
          rw [ES.out]
          clear hs ES hcar hcy
          go_wp2_with (at_builtin; refine wpList_append_own _ rfl _ _ 90 rfl w.heap.size 115 i0 (.int .u32 0) 1 4 Tryz.underlying90 hi hz0 hz1 hz2 rfl (by decide) _ _ _ rfl (hown.alloc _) ⟨wr.heap.size, 0, none⟩ 1 1 [.int .u32 (bits .and .u32 (s : Int) 65535)] rfl rfl ?c1 ?c2 ?c3 ?c4 ?c5 ?_)
          case c1 => exact new_one
          case c2 => exact one_int _ _
          case c3 => unfold maxLen; omega
          case c4 => omega
          case c5 => exact base_app hbw
          intro v' w1 hown1 hg1 _
          have hb1 := below_app hbw hown hg1
          rw [U_snoc _ _ _ _ (and16 hsl)] at hown1
          clear hown hbw hg1
          go_wp2
          go_roundw
          case rel => exact ⟨k + 1, s / DD, _, by omega, hnx, by go_num, by simp [DD], HS, hown1, hb1⟩
          case measure => simp [intOf]; omega

set_option maxRecDepth 100000 in
set_option maxHeartbeats 4000000 in
theorem rsub_new (u v : Value) (X Y : Nat) (w : World) (h : R16 w u X) (k : R16 w v Y) (hX : blen X ≤ 1500000) (hle : Y ≤ X) :
    Calls Tryz.prog 124 #[u, v] w fun e w' => ∃ z, e = .returned z ∧ New16 w' w.heap.size z (X - Y) ∧ Below w.heap.size w w' := by
  have hY : blen Y ≤ 1500000 := Nat.le_trans (blen_mono hle) hX
  obtain ⟨A, n, c, rfl, hr⟩ := h
  obtain ⟨B, m, d, rfl, kr⟩ := k
  have hr' := hr
  have kr' := kr
  obtain ⟨hlen, hcap, hmax, hat⟩ := hr
  obtain ⟨klen, kcap, kmax, kat⟩ := kr
  unfold maxLen at hmax kmax
  obtain ⟨i0, hi, hz0, hz1, hz2⟩ := info_parts info_u32
  have hl : Lim DD (limbs DD X) := limbs_lim DD_gt1 X
  have kl : Lim DD (limbs DD Y) := limbs_lim DD_gt1 Y
  have hv : val DD (limbs DD X) = X := limbs_val DD_gt1 X
  have kv : val DD (limbs DD Y) = Y := limbs_val DD_gt1 Y
  have hn : (limbs DD X).length ≤ 100000 := by rw [hlen]; exact dig_len' hr' (show blen X ≤ 16 * 100000 by omega)
  have hm : (limbs DD Y).length ≤ 100000 := by rw [klen]; exact dig_len' kr' (show blen Y ≤ 16 * 100000 by omega)
  obtain ⟨xs, hxs⟩ : ∃ xs, xs = limbs DD X := ⟨_, rfl⟩
  obtain ⟨ys, hys⟩ : ∃ ys, ys = limbs DD Y := ⟨_, rfl⟩
  rw [← hxs] at hlen hl hat hv hn
  rw [← hys] at klen kl kat kv hm
  have hyx : ys.length ≤ xs.length := by
    rw [hxs, hys]
    exact (limbs_len_le DD_gt1).2 (Nat.lt_of_le_of_lt hle (by have := val_lt (limbs_lim DD_gt1 X); rwa [limbs_val DD_gt1] at this))
  clear hxs hys hr' kr'
  subst hlen klen
  have HV : Hid (val DD xs = X) := hv
  have KV : Hid (val DD ys = Y) := kv
  have hle' : Hid (val DD ys ≤ val DD xs) := by unfold Hid; rw [hv, kv]; exact hle
  clear hv kv hX hY hle
  go_enter Tryz.func124, Tryz.ntmps124
  go_wp2
  go_loopw [5, 6, 7] (fun v q i wr => ∃ (k cy : Nat) (o : List Nat), k ≤ xs.length ∧ i = .int .i64 (k : Int) ∧ q = .int .i32 (cy : Int) ∧ Hid (DiffInv DD xs ys o cy k) ∧
    wr.ownsRow w.heap.size 115 1 v k (U .u32 o) ∧ Below w.heap.size w wr) (fun _ _ i _ => xs.length - (intOf i).toNat)
  case atStart => exact ⟨0, 0, [], Nat.zero_le _, rfl, rfl, hide (DiffInv.start xs ys), World.ownsRow_nil _ _ _ _, Below.refl _ _⟩
  case round =>
    obtain ⟨k, cy, o, hk, rfl, rfl, hinv, hown, hbw⟩ := hrel
    have hcar : cy ≤ 1 := hinv.out.car
    have HS := hide (hinv.out.step DD_gt1 hl kl)
    rcases Nat.lt_or_ge k xs.length with hx | hx
    · obtain ⟨b, off, rfl, hb, hc⟩ := hat (by omega)
      have hcell := RdN.cellW hc hb hbw k hx
      have hxl : nth xs k < DD := hl.getD DD_pos k
      unfold DD at hxl
      clear hc hat
      rcases Nat.lt_or_ge k ys.length with hy | hy
      · obtain ⟨b2, off2, rfl, hb2, hc2⟩ := kat (by omega)
        have hcell2 := RdN.cellW hc2 hb2 hbw k hy
        have hyl : nth ys k < DD := kl.getD DD_pos k
        unfold DD at hyl
        clear hc2 kat
        rcases Nat.lt_or_ge (nth xs k) (nth ys k + cy) with hn1 | hn1
        · have ex : Hid (xs.getD k 0 = nth xs k) := rfl
          have ey : Hid (ys.getD k 0 = nth ys k) := rfl
          rw [ex.out, ey.out] at HS
          clear ex ey
          have ec : Hid ((if nth xs k < nth ys k + cy then 1 else 0) = 1) := if_pos hn1
          rw [ec.out] at HS
          obtain ⟨q, hq⟩ : ∃ q, q = (nth xs k + DD - nth ys k - cy) % DD := ⟨_, rfl⟩
          rw [← hq] at HS
          have hql : q < 65536 := by rw [hq]; exact Nat.mod_lt _ DD_pos
          unfold DD at hq
          have ES : Hid ((nth xs k : Int) - (cy : Int) - (nth ys k : Int) + 65536 = (q : Int)) := by unfold Hid; omega
          have hsg : (nth xs k : Int) - (cy : Int) - (nth ys k : Int) < 0 := by omega
          clear hq ec
          go_upto_region 13 with fail
          rw [ES.out]
          clear ES hsg hcar hn1 hcell hxl hcell2 hyl
          go_wp2_with (at_builtin; refine wpList_append_own _ rfl _ _ 90 rfl w.heap.size 115 i0 (.int .u32 0) 1 4 Tryz.underlying90 hi hz0 hz1 hz2 rfl (by decide) _ _ _ rfl (hown.alloc _) ⟨wr.heap.size, 0, none⟩ 1 1 [.int .u32 (q : Int)] rfl rfl ?c1 ?c2 ?c3 ?c4 ?c5 ?_)
          case c1 => exact new_one
          case c2 => exact one_int _ _
          case c3 => unfold maxLen; omega
          case c4 => omega
          case c5 => exact base_app hbw
          intro v' w1 hown1 hg1 _
          have hb1 := below_app hbw hown hg1
          rw [U_snoc _ _ _ q rfl] at hown1
          clear hown hbw hg1
          go_wp2
          go_roundw
          case rel => exact ⟨k + 1, 1, _, by omega, by go_num, rfl, HS, hown1, hb1⟩
          case measure => simp [intOf]; omega
        · have ex : Hid (xs.getD k 0 = nth xs k) := rfl
          have ey : Hid (ys.getD k 0 = nth ys k) := rfl
          rw [ex.out, ey.out] at HS
          clear ex ey
          have ec : Hid ((if nth xs k < nth ys k + cy then 1 else 0) = 0) := if_neg (by omega)
          rw [ec.out] at HS
          obtain ⟨q, hq⟩ : ∃ q, q = (nth xs k + DD - nth ys k - cy) % DD := ⟨_, rfl⟩
          rw [← hq] at HS
          have hql : q < 65536 := by rw [hq]; exact Nat.mod_lt _ DD_pos
          unfold DD at hq
          have ES : Hid ((nth xs k : Int) - (cy : Int) - (nth ys k : Int) = (q : Int)) := by unfold Hid; omega
          have hsg : 0 ≤ (nth xs k : Int) - (cy : Int) - (nth ys k : Int) := by omega
          clear hq ec
          go_upto_region 13 with fail
          rw [ES.out]
          clear ES hsg hcar hn1 hcell hxl hcell2 hyl
          go_wp2_with (at_builtin; refine wpList_append_own _ rfl _ _ 90 rfl w.heap.size 115 i0 (.int .u32 0) 1 4 Tryz.underlying90 hi hz0 hz1 hz2 rfl (by decide) _ _ _ rfl (hown.alloc _) ⟨wr.heap.size, 0, none⟩ 1 1 [.int .u32 (q : Int)] rfl rfl ?c1 ?c2 ?c3 ?c4 ?c5 ?_)
          case c1 => exact new_one
          case c2 => exact one_int _ _
          case c3 => unfold maxLen; omega
          case c4 => omega
          case c5 => exact base_app hbw
          intro v' w1 hown1 hg1 _
          have hb1 := below_app hbw hown hg1
          rw [U_snoc _ _ _ q rfl] at hown1
          clear hown hbw hg1
          go_wp2
          go_roundw
          case rel => exact ⟨k + 1, 0, _, by omega, by go_num, rfl, HS, hown1, hb1⟩
          case measure => simp [intOf]; omega
      · clear kat
        rcases Nat.lt_or_ge (nth xs k) (0 + cy) with hn1 | hn1
        · have ex : Hid (xs.getD k 0 = nth xs k) := rfl
          have ey : Hid (ys.getD k 0 = 0) := by unfold Hid; simp [List.getD_eq_getElem?_getD, List.getElem?_eq_none hy]
          rw [ex.out, ey.out] at HS
          clear ex ey
          have ec : Hid ((if nth xs k < 0 + cy then 1 else 0) = 1) := if_pos hn1
          rw [ec.out] at HS
          obtain ⟨q, hq⟩ : ∃ q, q = (nth xs k + DD - 0 - cy) % DD := ⟨_, rfl⟩
          rw [← hq] at HS
          have hql : q < 65536 := by rw [hq]; exact Nat.mod_lt _ DD_pos
          unfold DD at hq
          have ES : Hid ((nth xs k : Int) - (cy : Int) + 65536 = (q : Int)) := by unfold Hid; omega
          have hsg : (nth xs k : Int) - (cy : Int) < 0 := by omega
          clear hq ec
          go_upto_region 13 with fail
          rw [ES.out]
          clear ES hsg hcar hn1 hcell hxl
          go_wp2_with (at_builtin; refine wpList_append_own _ rfl _ _ 90 rfl w.heap.size 115 i0 (.int .u32 0) 1 4 Tryz.underlying90 hi hz0 hz1 hz2 rfl (by decide) _ _ _ rfl (hown.alloc _) ⟨wr.heap.size, 0, none⟩ 1 1 [.int .u32 (q : Int)] rfl rfl ?c1 ?c2 ?c3 ?c4 ?c5 ?_)
          case c1 => exact new_one
          case c2 => exact one_int _ _
          case c3 => unfold maxLen; omega
          case c4 => omega
          case c5 => exact base_app hbw
          intro v' w1 hown1 hg1 _
          have hb1 := below_app hbw hown hg1
          rw [U_snoc _ _ _ q rfl] at hown1
          clear hown hbw hg1
          go_wp2
          go_roundw
          case rel => exact ⟨k + 1, 1, _, by omega, by go_num, rfl, HS, hown1, hb1⟩
          case measure => simp [intOf]; omega
        · have ex : Hid (xs.getD k 0 = nth xs k) := rfl
          have ey : Hid (ys.getD k 0 = 0) := by unfold Hid; simp [List.getD_eq_getElem?_getD, List.getElem?_eq_none hy]
          rw [ex.out, ey.out] at HS
          clear ex ey
          have ec : Hid ((if nth xs k < 0 + cy then 1 else 0) = 0) := if_neg (by omega)
          rw [ec.out] at HS
          obtain ⟨q, hq⟩ : ∃ q, q = (nth xs k + DD - 0 - cy) % DD := ⟨_, rfl⟩
          rw [← hq] at HS
          have hql : q < 65536 := by rw [hq]; exact Nat.mod_lt _ DD_pos
          unfold DD at hq
          have ES : Hid ((nth xs k : Int) - (cy : Int) = (q : Int)) := by unfold Hid; omega
          have hsg : 0 ≤ (nth xs k : Int) - (cy : Int) := by omega
          clear hq ec
          go_upto_region 13 with fail
          rw [ES.out]
          clear ES hsg hcar hn1 hcell hxl
          go_wp2_with (at_builtin; refine wpList_append_own _ rfl _ _ 90 rfl w.heap.size 115 i0 (.int .u32 0) 1 4 Tryz.underlying90 hi hz0 hz1 hz2 rfl (by decide) _ _ _ rfl (hown.alloc _) ⟨wr.heap.size, 0, none⟩ 1 1 [.int .u32 (q : Int)] rfl rfl ?c1 ?c2 ?c3 ?c4 ?c5 ?_)
          case c1 => exact new_one
          case c2 => exact one_int _ _
          case c3 => unfold maxLen; omega
          case c4 => omega
          case c5 => exact base_app hbw
          intro v' w1 hown1 hg1 _
          have hb1 := below_app hbw hown hg1
          rw [U_snoc _ _ _ q rfl] at hown1
          clear hown hbw hg1
          go_wp2
          go_roundw
          case rel => exact ⟨k + 1, 0, _, by omega, by go_num, rfl, HS, hown1, hb1⟩
          case measure => simp [intOf]; omega
    · obtain rfl : k = xs.length := by omega
      have hlast := hide (hinv.out.last hyx hle'.out)
      have hlo := hinv.out.lim
      obtain ⟨A', c', rfl⟩ := own_slice hown
      have hrd := RdN.of_own hown
      clear HS hat kat
      have hblk : 0 < xs.length → ∀ b, A' = some b → w.heap.size ≤ b.block := fun hp b e => by
        obtain ⟨g, rfl, hg⟩ := own_some hown hp
        injection e with e
        rw [← e]
        exact hg
      have hol := own_len hown
      go_wp2_with (go_at_call 136; refine (rtrim_at _ _ _ _ _ hrd).mono ?_; rintro e w' ⟨A2, c2, rfl, ⟨hr2, hA2⟩, rfl⟩)
      go_ret
      refine ⟨_, rfl, ⟨_, _, _, rfl, ?_, fun h0 b e => hblk (by have := trimL_len o; omega) b (by rw [← hA2 h0]; exact e)⟩, hbw⟩
      rw [trimL_limbs DD_gt1 hlo, hlast.out, HV.out, KV.out] at hr2 ⊢
      exact hr2
theorem rsub_any (u v : Value) (X Y : Nat) (w : World) (h : R16 w u X) (k : R16 w v Y) (hX : blen X ≤ 1500000) (hle : Y ≤ X) :
    Calls Tryz.prog 124 #[u, v] w fun e w' => ∃ z, e = .returned z ∧ R16 w' z (X - Y) ∧ Below w.heap.size w w' :=
  (rsub_new u v X Y w h k hX hle).mono fun _ _ ⟨z, he, hn, hb⟩ => ⟨z, he, hn.rd, hb⟩
end Go.Proofs.YtbpfnooloemieaaGreatDoor
