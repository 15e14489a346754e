/- Contracts of the document's answer sluicewayref1, part I: Add, Sub. Printed by wip/mk_RfI.py. -/
import Derived.Test.YtdnknokhcliikaaDoorRfH
namespace Go.Proofs.YtdnknokhcliikaaDoor
open Go.RowKit Pl

/-- Digits that lie in memory of the call's own. -/
def New16 (w : World) (B : Nat) (v : Value) (X : Nat) : Prop := ∃ A n c, v = .slice A n c ∧ RdN .u32 w A n c (limbs DD X) ∧ (0 < n → ∀ b, A = some b → B ≤ b.block)
theorem New16.rd {w : World} {B X : Nat} {v : Value} (h : New16 w B v X) : R16 w v X := by
  obtain ⟨A, n, c, hv, hr, _⟩ := h
  exact ⟨A, n, c, hv, hr⟩

set_option maxRecDepth 100000 in
set_option maxHeartbeats 4000000 in
theorem radd_any (u v : Value) (X Y : Nat) (w : World) (h : R16 w u X) (k : R16 w v Y) (hX : blen X ≤ 1500000) (hY : blen Y ≤ 1500000) :
    Calls Tryd.prog 44 #[u, v] w fun e w' => ∃ z, e = .returned z ∧ R16 w' z (X + Y) ∧ Below w.heap.size w w' := by
  obtain ⟨A, n, c, rfl, hr⟩ := h
  obtain ⟨B, m, d, rfl, kr⟩ := k
  have hr' := hr
  have kr' := kr
  obtain ⟨hlen, hcap, hmax, hat⟩ := hr
  obtain ⟨klen, kcap, kmax, kat⟩ := kr
  unfold maxLen at hmax kmax
  obtain ⟨i0, hi, hz0, hz1, hz2⟩ := info_parts info_u32
  have hl : Lim DD (limbs DD X) := limbs_lim DD_gt1 X
  have kl : Lim DD (limbs DD Y) := limbs_lim DD_gt1 Y
  have hv : val DD (limbs DD X) = X := limbs_val DD_gt1 X
  have kv : val DD (limbs DD Y) = Y := limbs_val DD_gt1 Y
  have hn : (limbs DD X).length ≤ 100000 := by rw [hlen]; exact dig_len' hr' (show blen X ≤ 16 * 100000 by omega)
  have hm : (limbs DD Y).length ≤ 100000 := by rw [klen]; exact dig_len' kr' (show blen Y ≤ 16 * 100000 by omega)
  obtain ⟨xs, hxs⟩ : ∃ xs, xs = limbs DD X := ⟨_, rfl⟩
  obtain ⟨ys, hys⟩ : ∃ ys, ys = limbs DD Y := ⟨_, rfl⟩
  rw [← hxs] at hlen hl hat hv hn
  rw [← hys] at klen kl kat kv hm
  clear hxs hys hr' kr'
  subst hlen klen
  have HV : Hid (val DD xs = X) := hv
  have KV : Hid (val DD ys = Y) := kv
  obtain ⟨M, hM1, hM2, hM3⟩ : ∃ M, xs.length ≤ M ∧ ys.length ≤ M ∧ M ≤ 100000 := ⟨max xs.length ys.length, Nat.le_max_left _ _, Nat.le_max_right _ _, by omega⟩
  clear hv kv hX hY
  go_enter Tryd.func44, Tryd.ntmps44
  go_wp2
  go_loopw [5, 6, 7] (fun v q i wr => ∃ (k cy : Nat) (o : List Nat), k ≤ M + 1 ∧ (k ≤ M ∨ cy = 0) ∧ i = .int .i64 (k : Int) ∧ q = .int .u32 (cy : Int) ∧ Hid (AddInv DD xs ys o cy k) ∧
    wr.ownsRow w.heap.size 72 1 v k (U .u32 o) ∧ Below w.heap.size w wr) (fun _ _ i _ => M + 1 - (intOf i).toNat)
  case atStart => exact ⟨0, 0, [], Nat.zero_le _, .inl (Nat.zero_le _), rfl, rfl, hide (AddInv.start xs ys), World.ownsRow_nil _ _ _ _, Below.refl _ _⟩
  case round =>
    obtain ⟨k, cy, o, hk, hkc, rfl, rfl, hinv, hown, hbw⟩ := hrel
    have hcar : cy ≤ 1 := hinv.out.car
    have HS := hide (hinv.out.step DD_gt1 hl kl)
    rcases Nat.lt_or_ge k xs.length with hx | hx
    · rcases Nat.lt_or_ge k ys.length with hy | hy
      · obtain ⟨b, off, rfl, hb, hc⟩ := hat (by omega)
        have hcell := RdN.cellW hc hb hbw k hx
        have hxl : nth xs k < DD := hl.getD DD_pos k
        have ex : Hid (xs.getD k 0 = nth xs k) := rfl
        clear hc
        obtain ⟨b2, off2, rfl, hb2, hc2⟩ := kat (by omega)
        have hcell2 := RdN.cellW hc2 hb2 hbw k hy
        have hyl : nth ys k < DD := kl.getD DD_pos k
        have ey : Hid (ys.getD k 0 = nth ys k) := rfl
        clear hc2
        rw [ex.out, ey.out] at HS
        clear ex ey hat kat
        unfold DD at hxl
        unfold DD at hyl
        obtain ⟨s, hs⟩ : ∃ s, s = cy + nth xs k + nth ys k := ⟨_, rfl⟩
        rw [← hs] at HS
        have hsl : s < 4294967296 := by omega
        have hnx : k + 1 ≤ M ∨ s / DD = 0 := by unfold DD; omega
        have hkM : k ≤ M := by omega
        have ES : Hid ((cy : Int) + (nth xs k : Int) + (nth ys k : Int) = (s : Int)) := by unfold Hid; omega
        clear hkc
        go_upto_region 10 with fail
        rw [ES.out]
        clear hs ES hcar hcell hxl hcell2 hyl
        go_wp2_with (at_builtin; refine wpList_append_own _ rfl _ _ 43 rfl w.heap.size 72 i0 (.int .u32 0) 1 4 Tryd.underlying43 hi hz0 hz1 hz2 rfl (by decide) _ _ _ rfl (hown.alloc _) ⟨wr.heap.size, 0, none⟩ 1 1 [.int .u32 (bits .and .u32 (s : Int) 65535)] rfl rfl ?c1 ?c2 ?c3 ?c4 ?c5 ?_)
        case c1 => exact new_one
        case c2 => exact one_int _ _
        case c3 => unfold maxLen; omega
        case c4 => omega
        case c5 => exact base_app hbw
        intro v' w1 hown1 hg1 _
        have hb1 := below_app hbw hown hg1
        rw [U_snoc _ _ _ _ (and16 hsl)] at hown1
        clear hown hbw hg1
        go_wp2
        go_roundw
        case rel => exact ⟨k + 1, s / DD, _, by omega, hnx, by go_num, by simp [DD], HS, hown1, hb1⟩
        case measure => simp [intOf]; omega
      · obtain ⟨b, off, rfl, hb, hc⟩ := hat (by omega)
        have hcell := RdN.cellW hc hb hbw k hx
        have hxl : nth xs k < DD := hl.getD DD_pos k
        have ex : Hid (xs.getD k 0 = nth xs k) := rfl
        clear hc
        have ey : Hid (ys.getD k 0 = 0) := by unfold Hid; simp [List.getD_eq_getElem?_getD, List.getElem?_eq_none hy]
        rw [ex.out, ey.out] at HS
        clear ex ey hat kat
        unfold DD at hxl
        obtain ⟨s, hs⟩ : ∃ s, s = cy + nth xs k + 0 := ⟨_, rfl⟩
        rw [← hs] at HS
        have hsl : s < 4294967296 := by omega
        have hnx : k + 1 ≤ M ∨ s / DD = 0 := by unfold DD; omega
        have hkM : k ≤ M := by omega
        have ES : Hid ((cy : Int) + (nth xs k : Int) = (s : Int)) := by unfold Hid; omega
        clear hkc
        go_upto_region 10 with fail
        rw [ES.out]
        clear hs ES hcar hcell hxl
        go_wp2_with (at_builtin; refine wpList_append_own _ rfl _ _ 43 rfl w.heap.size 72 i0 (.int .u32 0) 1 4 Tryd.underlying43 hi hz0 hz1 hz2 rfl (by decide) _ _ _ rfl (hown.alloc _) ⟨wr.heap.size, 0, none⟩ 1 1 [.int .u32 (bits .and .u32 (s : Int) 65535)] rfl rfl ?c1 ?c2 ?c3 ?c4 ?c5 ?_)
        case c1 => exact new_one
        case c2 => exact one_int _ _
        case c3 => unfold maxLen; omega
        case c4 => omega
        case c5 => exact base_app hbw
        intro v' w1 hown1 hg1 _
        have hb1 := below_app hbw hown hg1
        rw [U_snoc _ _ _ _ (and16 hsl)] at hown1
        clear hown hbw hg1
        go_wp2
        go_roundw
        case rel => exact ⟨k + 1, s / DD, _, by omega, hnx, by go_num, by simp [DD], HS, hown1, hb1⟩
        case measure => simp [intOf]; omega
    · rcases Nat.lt_or_ge k ys.length with hy | hy
      · have ex : Hid (xs.getD k 0 = 0) := by unfold Hid; simp [List.getD_eq_getElem?_getD, List.getElem?_eq_none hx]
        obtain ⟨b2, off2, rfl, hb2, hc2⟩ := kat (by omega)
        have hcell2 := RdN.cellW hc2 hb2 hbw k hy
        have hyl : nth ys k < DD := kl.getD DD_pos k
        have ey : Hid (ys.getD k 0 = nth ys k) := rfl
        clear hc2
        rw [ex.out, ey.out] at HS
        clear ex ey hat kat
        unfold DD at hyl
        obtain ⟨s, hs⟩ : ∃ s, s = cy + 0 + nth ys k := ⟨_, rfl⟩
        rw [← hs] at HS
        have hsl : s < 4294967296 := by omega
        have hnx : k + 1 ≤ M ∨ s / DD = 0 := by unfold DD; omega
        have hkM : k ≤ M := by omega
        have ES : Hid ((cy : Int) + (nth ys k : Int) = (s : Int)) := by unfold Hid; omega
        clear hkc
        go_upto_region 10 with fail
        rw [ES.out]
        clear hs ES hcar hcell2 hyl
        go_wp2_with (at_builtin; refine wpList_append_own _ rfl _ _ 43 rfl w.heap.size 72 i0 (.int .u32 0) 1 4 Tryd.underlying43 hi hz0 hz1 hz2 rfl (by decide) _ _ _ rfl (hown.alloc _) ⟨wr.heap.size, 0, none⟩ 1 1 [.int .u32 (bits .and .u32 (s : Int) 65535)] rfl rfl ?c1 ?c2 ?c3 ?c4 ?c5 ?_)
        case c1 => exact new_one
        case c2 => exact one_int _ _
        case c3 => unfold maxLen; omega
        case c4 => omega
        case c5 => exact base_app hbw
        intro v' w1 hown1 hg1 _
        have hb1 := below_app hbw hown hg1
        rw [U_snoc _ _ _ _ (and16 hsl)] at hown1
        clear hown hbw hg1
        go_wp2
        go_roundw
        case rel => exact ⟨k + 1, s / DD, _, by omega, hnx, by go_num, by simp [DD], HS, hown1, hb1⟩
        case measure => simp [intOf]; omega
      · rcases Nat.eq_zero_or_pos cy with h0 | hpos
        · subst h0
          have hlast := hide (hinv.out.last hx hy)
          have hlo := hinv.out.lim
          obtain ⟨A', c', rfl⟩ := own_slice hown
          have hrd := RdN.of_own hown
          clear HS hat kat
          go_wp2_with (go_at_call 58; refine (rtrim_any _ _ _ _ _ hrd).mono ?_; rintro e w' ⟨A2, c2, rfl, hr2, rfl⟩)
          go_ret
          refine ⟨_, rfl, ⟨_, _, _, rfl, ?_⟩, hbw⟩
          rw [trimL_limbs DD_gt1 hlo, hlast.out, HV.out, KV.out] at hr2 ⊢
          exact hr2
        · have ex : Hid (xs.getD k 0 = 0) := by unfold Hid; simp [List.getD_eq_getElem?_getD, List.getElem?_eq_none hx]
          have ey : Hid (ys.getD k 0 = 0) := by unfold Hid; simp [List.getD_eq_getElem?_getD, List.getElem?_eq_none hy]
          rw [ex.out, ey.out] at HS
          clear ex ey hat kat
          obtain ⟨s, hs⟩ : ∃ s, s = cy + 0 + 0 := ⟨_, rfl⟩
          rw [← hs] at HS
          have hsl : s < 4294967296 := by omega
          have hnx : k + 1 ≤ M ∨ s / DD = 0 := by unfold DD; omega
          have hkM : k ≤ M := by omega
          have ES : Hid ((cy : Int) = (s : Int)) := by unfold Hid; omega
          have hcy : (0 : Int) < (cy : Int) := by omega
          clear hkc
          go_upto_region 10 with fail
          rw [ES.out]
          clear hs ES hcar hcy
          go_wp2_with (at_builtin; refine wpList_append_own _ rfl _ _ 43 rfl w.heap.size 72 i0 (.int .u32 0) 1 4 Tryd.underlying43 hi hz0 hz1 hz2 rfl (by decide) _ _ _ rfl (hown.alloc _) ⟨wr.heap.size, 0, none⟩ 1 1 [.int .u32 (bits .and .u32 (s : Int) 65535)] rfl rfl ?c1 ?c2 ?c3 ?c4 ?c5 ?_)
          case c1 => exact new_one
          case c2 => exact one_int _ _
          case c3 => unfold maxLen; omega
          case c4 => omega
          case c5 => exact base_app hbw
          intro v' w1 hown1 hg1 _
          have hb1 := below_app hbw hown hg1
          rw [U_snoc _ _ _ _ (and16 hsl)] at hown1
          clear hown hbw hg1
          go_wp2
          go_roundw
          case rel => exact ⟨k + 1, s / DD, _, by omega, hnx, by go_num, by simp [DD], HS, hown1, hb1⟩
          case measure => simp [intOf]; omega

set_option maxRecDepth 100000 in
set_option maxHeartbeats 4000000 in
theorem rsub_new (u v : Value) (X Y : Nat) (w : World) (h : R16 w u X) (k : R16 w v Y) (hX : blen X ≤ 1500000) (hle : Y ≤ X) :
    Calls Tryd.prog 46 #[u, v] w fun e w' => ∃ z, e = .returned z ∧ New16 w' w.heap.size z (X - Y) ∧ Below w.heap.size w w' := by
  have hY : blen Y ≤ 1500000 := Nat.le_trans (blen_mono hle) hX
  obtain ⟨A, n, c, rfl, hr⟩ := h
  obtain ⟨B, m, d, rfl, kr⟩ := k
  have hr' := hr
  have kr' := kr
  obtain ⟨hlen, hcap, hmax, hat⟩ := hr
  obtain ⟨klen, kcap, kmax, kat⟩ := kr
  unfold maxLen at hmax kmax
  obtain ⟨i0, hi, hz0, hz1, hz2⟩ := info_parts info_u32
  have hl : Lim DD (limbs DD X) := limbs_lim DD_gt1 X
  have kl : Lim DD (limbs DD Y) := limbs_lim DD_gt1 Y
  have hv : val DD (limbs DD X) = X := limbs_val DD_gt1 X
  have kv : val DD (limbs DD Y) = Y := limbs_val DD_gt1 Y
  have hn : (limbs DD X).length ≤ 100000 := by rw [hlen]; exact dig_len' hr' (show blen X ≤ 16 * 100000 by omega)
  have hm : (limbs DD Y).length ≤ 100000 := by rw [klen]; exact dig_len' kr' (show blen Y ≤ 16 * 100000 by omega)
  obtain ⟨xs, hxs⟩ : ∃ xs, xs = limbs DD X := ⟨_, rfl⟩
  obtain ⟨ys, hys⟩ : ∃ ys, ys = limbs DD Y := ⟨_, rfl⟩
  rw [← hxs] at hlen hl hat hv hn
  rw [← hys] at klen kl kat kv hm
  have hyx : ys.length ≤ xs.length := by
    rw [hxs, hys]
    exact (limbs_len_le DD_gt1).2 (Nat.lt_of_le_of_lt hle (by have := val_lt (limbs_lim DD_gt1 X); rwa [limbs_val DD_gt1] at this))
  clear hxs hys hr' kr'
  subst hlen klen
  have HV : Hid (val DD xs = X) := hv
  have KV : Hid (val DD ys = Y) := kv
  have hle' : Hid (val DD ys ≤ val DD xs) := by unfold Hid; rw [hv, kv]; exact hle
  clear hv kv hX hY hle
  go_enter Tryd.func46, Tryd.ntmps46
  go_wp2
  go_loopw [5, 6, 7] (fun v q i wr => ∃ (k cy : Nat) (o : List Nat), k ≤ xs.length ∧ i = .int .i64 (k : Int) ∧ q = .int .i32 (cy : Int) ∧ Hid (DiffInv DD xs ys o cy k) ∧
    wr.ownsRow w.heap.size 72 1 v k (U .u32 o) ∧ Below w.heap.size w wr) (fun _ _ i _ => xs.length - (intOf i).toNat)
  case atStart => exact ⟨0, 0, [], Nat.zero_le _, rfl, rfl, hide (DiffInv.start xs ys), World.ownsRow_nil _ _ _ _, Below.refl _ _⟩
  case round =>
    obtain ⟨k, cy, o, hk, rfl, rfl, hinv, hown, hbw⟩ := hrel
    have hcar : cy ≤ 1 := hinv.out.car
    have HS := hide (hinv.out.step DD_gt1 hl kl)
    rcases Nat.lt_or_ge k xs.length with hx | hx
    · obtain ⟨b, off, rfl, hb, hc⟩ := hat (by omega)
      have hcell := RdN.cellW hc hb hbw k hx
      have hxl : nth xs k < DD := hl.getD DD_pos k
      unfold DD at hxl
      clear hc hat
      rcases Nat.lt_or_ge k ys.length with hy | hy
      · obtain ⟨b2, off2, rfl, hb2, hc2⟩ := kat (by omega)
        have hcell2 := RdN.cellW hc2 hb2 hbw k hy
        have hyl : nth ys k < DD := kl.getD DD_pos k
        unfold DD at hyl
        clear hc2 kat
        rcases Nat.lt_or_ge (nth xs k) (nth ys k + cy) with hn1 | hn1
        · have ex : Hid (xs.getD k 0 = nth xs k) := rfl
          have ey : Hid (ys.getD k 0 = nth ys k) := rfl
          rw [ex.out, ey.out] at HS
          clear ex ey
          have ec : Hid ((if nth xs k < nth ys k + cy then 1 else 0) = 1) := if_pos hn1
          rw [ec.out] at HS
          obtain ⟨q, hq⟩ : ∃ q, q = (nth xs k + DD - nth ys k - cy) % DD := ⟨_, rfl⟩
          rw [← hq] at HS
          have hql : q < 65536 := by rw [hq]; exact Nat.mod_lt _ DD_pos
          unfold DD at hq
          have ES : Hid ((nth xs k : Int) - (cy : Int) - (nth ys k : Int) + 65536 = (q : Int)) := by unfold Hid; omega
          have hsg : (nth xs k : Int) - (cy : Int) - (nth ys k : Int) < 0 := by omega
          clear hq ec
          go_upto_region 13 with fail
          rw [ES.out]
          clear ES hsg hcar hn1 hcell hxl hcell2 hyl
          go_wp2_with (at_builtin; refine wpList_append_own _ rfl _ _ 43 rfl w.heap.size 72 i0 (.int .u32 0) 1 4 Tryd.underlying43 hi hz0 hz1 hz2 rfl (by decide) _ _ _ rfl (hown.alloc _) ⟨wr.heap.size, 0, none⟩ 1 1 [.int .u32 (q : Int)] rfl rfl ?c1 ?c2 ?c3 ?c4 ?c5 ?_)
          case c1 => exact new_one
          case c2 => exact one_int _ _
          case c3 => unfold maxLen; omega
          case c4 => omega
          case c5 => exact base_app hbw
          intro v' w1 hown1 hg1 _
          have hb1 := below_app hbw hown hg1
          rw [U_snoc _ _ _ q rfl] at hown1
          clear hown hbw hg1
          go_wp2
          go_roundw
          case rel => exact ⟨k + 1, 1, _, by omega, by go_num, rfl, HS, hown1, hb1⟩
          case measure => simp [intOf]; omega
        · have ex : Hid (xs.getD k 0 = nth xs k) := rfl
          have ey : Hid (ys.getD k 0 = nth ys k) := rfl
          rw [ex.out, ey.out] at HS
          clear ex ey
          have ec : Hid ((if nth xs k < nth ys k + cy then 1 else 0) = 0) := if_neg (by omega)
          rw [ec.out] at HS
          obtain ⟨q, hq⟩ : ∃ q, q = (nth xs k + DD - nth ys k - cy) % DD := ⟨_, rfl⟩
          rw [← hq] at HS
          have hql : q < 65536 := by rw [hq]; exact Nat.mod_lt _ DD_pos
          unfold DD at hq
          have ES : Hid ((nth xs k : Int) - (cy : Int) - (nth ys k : Int) = (q : Int)) := by unfold Hid; omega
          have hsg : 0 ≤ (nth xs k : Int) - (cy : Int) - (nth ys k : Int) := by omega
          clear hq ec
          go_upto_region 13 with fail
          rw [ES.out]
          clear ES hsg hcar hn1 hcell hxl hcell2 hyl
          go_wp2_with (at_builtin; refine wpList_append_own _ rfl _ _ 43 rfl w.heap.size 72 i0 (.int .u32 0) 1 4 Tryd.underlying43 hi hz0 hz1 hz2 rfl (by decide) _ _ _ rfl (hown.alloc _) ⟨wr.heap.size, 0, none⟩ 1 1 [.int .u32 (q : Int)] rfl rfl ?c1 ?c2 ?c3 ?c4 ?c5 ?_)
          case c1 => exact new_one
          case c2 => exact one_int _ _
          case c3 => unfold maxLen; omega
          case c4 => omega
          case c5 => exact base_app hbw
          intro v' w1 hown1 hg1 _
          have hb1 := below_app hbw hown hg1
          rw [U_snoc _ _ _ q rfl] at hown1
          clear hown hbw hg1
          go_wp2
          go_roundw
          case rel => exact ⟨k + 1, 0, _, by omega, by go_num, rfl, HS, hown1, hb1⟩
          case measure => simp [intOf]; omega
      · clear kat
        rcases Nat.lt_or_ge (nth xs k) (0 + cy) with hn1 | hn1
        · have ex : Hid (xs.getD k 0 = nth xs k) := rfl
          have ey : Hid (ys.getD k 0 = 0) := by unfold Hid; simp [List.getD_eq_getElem?_getD, List.getElem?_eq_none hy]
          rw [ex.out, ey.out] at HS
          clear ex ey
          have ec : Hid ((if nth xs k < 0 + cy then 1 else 0) = 1) := if_pos hn1
          rw [ec.out] at HS
          obtain ⟨q, hq⟩ : ∃ q, q = (nth xs k + DD - 0 - cy) % DD := ⟨_, rfl⟩
          rw [← hq] at HS
          have hql : q < 65536 := by rw [hq]; exact Nat.mod_lt _ DD_pos
          unfold DD at hq
          have ES : Hid ((nth xs k : Int) - (cy : Int) + 65536 = (q : Int)) := by unfold Hid; omega
          have hsg : (nth xs k : Int) - (cy : Int) < 0 := by omega
          clear hq ec
          go_upto_region 13 with fail
          rw [ES.out]
          clear ES hsg hcar hn1 hcell hxl
          go_wp2_with (at_builtin; refine wpList_append_own _ rfl _ _ 43 rfl w.heap.size 72 i0 (.int .u32 0) 1 4 Tryd.underlying43 hi hz0 hz1 hz2 rfl (by decide) _ _ _ rfl (hown.alloc _) ⟨wr.heap.size, 0, none⟩ 1 1 [.int .u32 (q : Int)] rfl rfl ?c1 ?c2 ?c3 ?c4 ?c5 ?_)
          case c1 => exact new_one
          case c2 => exact one_int _ _
          case c3 => unfold maxLen; omega
          case c4 => omega
          case c5 => exact base_app hbw
          intro v' w1 hown1 hg1 _
          have hb1 := below_app hbw hown hg1
          rw [U_snoc _ _ _ q rfl] at hown1
          clear hown hbw hg1
          go_wp2
          go_roundw
          case rel => exact ⟨k + 1, 1, _, by omega, by go_num, rfl, HS, hown1, hb1⟩
          case measure => simp [intOf]; omega
        · have ex : Hid (xs.getD k 0 = nth xs k) := rfl
          have ey : Hid (ys.getD k 0 = 0) := by unfold Hid; simp [List.getD_eq_getElem?_getD, List.getElem?_eq_none hy]
          rw [ex.out, ey.out] at HS
          clear ex ey
          have ec : Hid ((if nth xs k < 0 + cy then 1 else 0) = 0) := if_neg (by omega)
          rw [ec.out] at HS
          obtain ⟨q, hq⟩ : ∃ q, q = (nth xs k + DD - 0 - cy) % DD := ⟨_, rfl⟩
          rw [← hq] at HS
          have hql : q < 65536 := by rw [hq]; exact Nat.mod_lt _ DD_pos
          unfold DD at hq
          have ES : Hid ((nth xs k : Int) - (cy : Int) = (q : Int)) := by unfold Hid; omega
          have hsg : 0 ≤ (nth xs k : Int) - (cy : Int) := by omega
          clear hq ec
          go_upto_region 13 with fail
          rw [ES.out]
          clear ES hsg hcar hn1 hcell hxl
          go_wp2_with (at_builtin; refine wpList_append_own _ rfl _ _ 43 rfl w.heap.size 72 i0 (.int .u32 0) 1 4 Tryd.underlying43 hi hz0 hz1 hz2 rfl (by decide) _ _ _ rfl (hown.alloc _) ⟨wr.heap.size, 0, none⟩ 1 1 [.int .u32 (q : Int)] rfl rfl ?c1 ?c2 ?c3 ?c4 ?c5 ?_)
          case c1 => exact new_one
          case c2 => exact one_int _ _
          case c3 => unfold maxLen; omega
          case c4 => omega
          case c5 => exact base_app hbw
          intro v' w1 hown1 hg1 _
          have hb1 := below_app hbw hown hg1
          rw [U_snoc _ _ _ q rfl] at hown1
          clear hown hbw hg1
          go_wp2
          go_roundw
          case rel => exact ⟨k + 1, 0, _, by omega, by go_num, rfl, HS, hown1, hb1⟩
          case measure => simp [intOf]; omega
    · obtain rfl : k = xs.length := by omega
      have hlast := hide (hinv.out.last hyx hle'.out)
      have hlo := hinv.out.lim
      obtain ⟨A', c', rfl⟩ := own_slice hown
      have hrd := RdN.of_own hown
      clear HS hat kat
      have hblk : 0 < xs.length → ∀ b, A' = some b → w.heap.size ≤ b.block := fun hp b e => by
        obtain ⟨g, rfl, hg⟩ := own_some hown hp
        injection e with e
        rw [← e]
        exact hg
      have hol := own_len hown
      go_wp2_with (go_at_call 58; refine (rtrim_at _ _ _ _ _ hrd).mono ?_; rintro e w' ⟨A2, c2, rfl, ⟨hr2, hA2⟩, rfl⟩)
      go_ret
      refine ⟨_, rfl, ⟨_, _, _, rfl, ?_, fun h0 b e => hblk (by have := trimL_len o; omega) b (by rw [← hA2 h0]; exact e)⟩, hbw⟩
      rw [trimL_limbs DD_gt1 hlo, hlast.out, HV.out, KV.out] at hr2 ⊢
      exact hr2
theorem rsub_any (u v : Value) (X Y : Nat) (w : World) (h : R16 w u X) (k : R16 w v Y) (hX : blen X ≤ 1500000) (hle : Y ≤ X) :
    Calls Tryd.prog 46 #[u, v] w fun e w' => ∃ z, e = .returned z ∧ R16 w' z (X - Y) ∧ Below w.heap.size w w' :=
  (rsub_new u v X Y w h k hX hle).mono fun _ _ ⟨z, he, hn, hb⟩ => ⟨z, he, hn.rd, hb⟩
end Go.Proofs.YtdnknokhcliikaaDoor
