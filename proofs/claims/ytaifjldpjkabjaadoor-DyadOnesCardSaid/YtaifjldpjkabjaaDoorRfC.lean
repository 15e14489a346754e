/- Contracts of the document's answer sluicewayref1, part C: Shl. -/
import Derived.Test.YtaifjldpjkabjaaDoorRfA
namespace Go.Proofs.YtaifjldpjkabjaaDoor
open Go.RowKit Pl

theorem or16 {x r c : Nat} (hx : x < DD) (hr : r < 16) (hc : c < 2 ^ r) : bits .or .u32 ((x : Int) * 2 ^ r % 4294967296) (c : Int) = ((x * 2 ^ r + c : Nat) : Int) := by
  have h1 : x * 2 ^ r < 4294967296 := by
    calc x * 2 ^ r ≤ 65535 * 32768 := Nat.mul_le_mul (by unfold DD at hx; omega) (Nat.pow_le_pow_right (by omega) (show r ≤ 15 by omega))
      _ < _ := by omega
  have h2 : c < 4294967296 := Nat.lt_of_lt_of_le hc (Nat.pow_le_pow_right (by omega) (show r ≤ 32 by omega))
  have h3 : ((x : Int) * 2 ^ r) = ((x * 2 ^ r : Nat) : Int) := by rw [Int.natCast_mul, Int.natCast_pow]; rfl
  rw [h3, show ((x * 2 ^ r : Nat) : Int) % 4294967296 = ((x * 2 ^ r : Nat) : Int) by omega, u32_or_nat _ _ h1 h2, nat_join r _ _ (Nat.mul_mod_left _ _) hc]
theorem and16 {y : Nat} (hy : y < 4294967296) : bits .and .u32 (y : Int) 65535 = ((y % DD : Nat) : Int) := by
  have e3 := u32_and_nat y 65535 hy (by omega)
  rw [nat_mask16] at e3
  exact e3

set_option maxRecDepth 100000 in
set_option maxHeartbeats 1000000 in
theorem rshl_any (A : Option Addr) (n c X m : Nat) (w : World) (h : RdN .u32 w A n c (limbs DD X)) (hn : n ≤ 100000) (hm : m ≤ 1000000) :
    Calls Tryd.prog 41 #[.slice A n c, .int .i64 (m : Int)] w fun e w' => ∃ v, e = .returned v ∧ R16 w' v (X * 2 ^ m) ∧ Below w.heap.size w w' := by
  have HR := hide h
  obtain ⟨hlen, hcap, hmax, hat⟩ := h
  unfold maxLen at hmax
  obtain ⟨i0, hi, hz0, hz1, hz2⟩ := info_parts info_u32
  have hl : Lim DD (limbs DD X) := limbs_lim DD_gt1 X
  by_cases h0 : n = 0
  · have e0 : ((n : Int) == 0) = true := by simp [h0]
    have hX : Hid (X * 2 ^ m = X) := by
      have : limbs DD X = [] := List.length_eq_zero_iff.1 (by omega)
      rw [(limbs_eq_nil DD_gt1).1 this, Nat.zero_mul]
      rfl
    clear h0
    go_enter Tryd.func41, Tryd.ntmps41
    go_wp2
    go_ret
    exact ⟨_, rfl, by rw [hX.out]; exact ⟨_, _, _, rfl, HR.out⟩, Below.refl _ _⟩
  · obtain ⟨xs, hxs⟩ : ∃ xs, xs = limbs DD X := ⟨_, rfl⟩
    rw [← hxs] at hlen hl hat
    have HX := hide hxs
    clear hxs
    subst hlen
    obtain ⟨b, off, rfl, hb, hc⟩ := hat (by omega)
    have e0 : ((xs.length : Int) == 0) = false := beq_eq_false_iff_ne.2 (by omega)
    clear hat
    go_enter Tryd.func41, Tryd.ntmps41
    go_wp2_with (at_make; refine wpList_make_full _ rfl _ _ 33 rfl w.heap.size 75 i0 _ 1 Tryd.underlying33 hi hz0 hz1 .i64 .i64 _ _ (m / 16) rfl rfl ?c1 ?c2 ?c3 ?c4 ?c5 ?_)
    case c1 => omega
    case c2 => omega
    case c3 => rw [hz2]; omega
    case c4 => unfold maxLen; omega
    case c5 => exact Nat.le_refl _
    intro w1 hown1 hg1
    rw [made_u32] at hown1
    have hb1 : Below w.heap.size w w1 := (Below.refl _ _).grown hg1 (Nat.le_refl _) (by simp)
    go_wp2
    go_loopw [5, 6, 7] (fun v y i wr => ∃ (k : Nat) (o : List Nat) (q : Nat), k ≤ xs.length ∧ i = .int .i64 (k : Int) ∧ y = .int .u32 (q : Int) ∧ Hid (ShlInv xs o (m / 16) (m % 16) q k) ∧
      wr.ownsRow w.heap.size 75 1 v (m / 16 + k) (U .u32 o) ∧ Below w.heap.size w wr) (fun _ _ i _ => xs.length - (intOf i).toNat)
    case atStart => exact ⟨0, _, 0, Nat.zero_le _, rfl, rfl, hide (ShlInv.start xs (m / 16) (m % 16)), hown1, hb1⟩
    case round =>
      obtain ⟨k, o, q, hk, rfl, rfl, hinv, hown, hbw⟩ := hrel
      rcases Nat.lt_or_ge k xs.length with hlt | hge
      · have hcell := RdN.cellW hc hb hbw k hlt
        go_upto_region 9 with fail
        have hx : nth xs k < DD := hl.getD DD_pos k
        have hq : q < 2 ^ (m % 16) := hinv.out.car
        rw [or16 hx (by omega) hq]
        obtain ⟨y, hy⟩ : ∃ y, y = nth xs k * 2 ^ (m % 16) + q := ⟨_, rfl⟩
        rw [← hy]
        have hyl : y < 4294967296 := by
          have h1 : nth xs k * 2 ^ (m % 16) ≤ 65535 * 32768 := Nat.mul_le_mul (by unfold DD at hx; omega) (Nat.pow_le_pow_right (by omega) (show m % 16 ≤ 15 by omega))
          have h2 : 2 ^ (m % 16) ≤ 2 ^ 15 := Nat.pow_le_pow_right (by omega) (by omega)
          omega
        have HY := hide hy
        clear hy hx hq
        go_wp2_with (at_builtin; refine wpList_append_own _ rfl _ _ 33 rfl w.heap.size 75 i0 (.int .u32 0) 1 4 Tryd.underlying33 hi hz0 hz1 hz2 rfl (by decide) _ _ _ rfl (hown.alloc _) ⟨wr.heap.size, 0, none⟩ 1 1 [.int .u32 (bits .and .u32 (y : Int) 65535)] rfl rfl ?c1 ?c2 ?c3 ?c4 ?c5 ?_)
        case c1 => exact new_one
        case c2 => exact one_int _ _
        case c3 => unfold maxLen; omega
        case c4 => omega
        case c5 => exact base_app hbw
        intro v' w1 hown1 hg1 _
        have hb1 := below_app hbw hown hg1
        rw [U_snoc _ _ _ _ (and16 hyl)] at hown1
        clear hown hbw hg1
        go_wp2
        go_roundw
        case rel =>
          have hs := hinv.out.step hl
          have ey : xs.getD k 0 * 2 ^ (m % 16) + q = y := HY.out.symm
          rw [ey] at hs
          exact ⟨k + 1, _, y / DD, by omega, by go_num, by simp [DD], hide hs, hown1, hb1⟩
        case measure => simp [intOf]; omega
      · obtain rfl : k = xs.length := by omega
        have hlast := hide (hinv.out.last (Nat.mod_lt m (by omega)))
        have hq : q < 2 ^ (m % 16) := hinv.out.car
        have hq2 : q < 65536 := Nat.lt_of_lt_of_le hq (show 2 ^ (m % 16) ≤ 2 ^ 16 from Nat.pow_le_pow_right (by omega) (by omega))
        clear hq
        go_wp2_with (at_builtin; refine wpList_append_own _ rfl _ _ 33 rfl w.heap.size 75 i0 (.int .u32 0) 1 4 Tryd.underlying33 hi hz0 hz1 hz2 rfl (by decide) _ _ _ rfl (hown.alloc _) ⟨wr.heap.size, 0, none⟩ 1 1 [.int .u32 (q : Int)] rfl rfl ?c1 ?c2 ?c3 ?c4 ?c5 ?_)
        case c1 => exact new_one
        case c2 => exact one_int _ _
        case c3 => unfold maxLen; omega
        case c4 => omega
        case c5 => exact base_app hbw
        intro v' w1 hown1 hg1 _
        have hb1 := below_app hbw hown hg1
        rw [U_snoc _ _ _ q rfl] at hown1
        clear hown hbw hg1
        obtain ⟨A', c', rfl⟩ := own_slice hown1
        have hrd := RdN.of_own hown1
        go_wp2_with (go_at_call 71; refine (rtrim_any _ _ _ _ _ hrd).mono ?_; rintro e w' ⟨A2, c2, rfl, hr2, rfl⟩)
        go_ret
        refine ⟨_, rfl, ⟨_, _, _, rfl, ?_⟩, hb1⟩
        rw [trimL_limbs DD_gt1 hlast.out.1, hlast.out.2, HX.out, limbs_val DD_gt1, show 16 * (m / 16) + m % 16 = m by omega] at hr2 ⊢
        exact hr2
end Go.Proofs.YtaifjldpjkabjaaDoor
