/- Contracts of the document's answer sluicewayref1, part J: Mul. -/
import Derived.Test.YteodljieiloebaaDoorRfHx
import Derived.Test.YteodljieiloebaaDoorNatDx
namespace Go.Proofs.YteodljieiloebaaDoor
open Go.RowKit Pl

set_option maxRecDepth 100000 in
set_option maxHeartbeats 4000000 in
theorem rmul_any (u v : Value) (X Y : Nat) (w : World) (h : R16 w u X) (k : R16 w v Y) (hX : blen X ≤ 1500000) (hY : blen Y ≤ 1500000) :
    Calls Tryd.prog 78 #[u, v] w fun e w' => ∃ z, e = .returned z ∧ R16 w' z (X * Y) ∧ Below w.heap.size w w' := by
  obtain ⟨A, n, c, rfl, hr⟩ := h
  obtain ⟨B, m, d, rfl, kr⟩ := k
  have hr' := hr
  have kr' := kr
  obtain ⟨hlen, hcap, hmax, hat⟩ := hr
  obtain ⟨klen, kcap, kmax, kat⟩ := kr
  unfold maxLen at hmax kmax
  obtain ⟨i0, hi, hz0, hz1, hz2⟩ := info_parts info_u32
  have hl : Lim DD (limbs DD X) := limbs_lim DD_gt1 X
  have kl : Lim DD (limbs DD Y) := limbs_lim DD_gt1 Y
  have hv : val DD (limbs DD X) = X := limbs_val DD_gt1 X
  have kv : val DD (limbs DD Y) = Y := limbs_val DD_gt1 Y
  have hn : (limbs DD X).length ≤ 100000 := by rw [hlen]; exact dig_len' hr' (show blen X ≤ 16 * 100000 by omega)
  have hm : (limbs DD Y).length ≤ 100000 := by rw [klen]; exact dig_len' kr' (show blen Y ≤ 16 * 100000 by omega)
  obtain ⟨xs, hxs⟩ : ∃ xs, xs = limbs DD X := ⟨_, rfl⟩
  obtain ⟨ys, hys⟩ : ∃ ys, ys = limbs DD Y := ⟨_, rfl⟩
  rw [← hxs] at hlen hl hat hv hn
  rw [← hys] at klen kl kat kv hm
  clear hxs hys hr' kr'
  subst hlen klen
  have HV : Hid (val DD xs = X) := hv
  have KV : Hid (val DD ys = Y) := kv
  clear hv kv hX hY
  go_enter Tryd.func78, Tryd.ntmps78
  go_wp2_with (at_make; refine wpList_make_full _ rfl _ _ 46 rfl w.heap.size 75 i0 _ 1 Tryd.underlying46 hi hz0 hz1 .i64 .i64 _ _ (xs.length + ys.length) rfl rfl ?c1 ?c2 ?c3 ?c4 ?c5 ?_)
  case c1 => omega
  case c2 => omega
  case c3 => rw [hz2]; omega
  case c4 => unfold maxLen; omega
  case c5 => exact Nat.le_refl _
  intro w1 hown1 hg1
  rw [made_u32] at hown1
  have hb1 : Below w.heap.size w w1 := (Below.refl _ _).grown hg1 (Nat.le_refl _) (by simp)
  go_wp2
  go_loopw [6] (fun i wr => ∃ (k : Nat) (o : List Nat), k ≤ xs.length ∧ i = .int .i64 (k : Int) ∧ Hid (TimesInv DD xs ys o k) ∧
    wr.ownsRow w.heap.size 75 1 (.slice (some ⟨w.heap.size, 0, none⟩) (xs.length + ys.length) (xs.length + ys.length)) (xs.length + ys.length) (U .u32 o) ∧ Below w.heap.size w wr) (fun i _ => xs.length - (intOf i).toNat)
  case atStart => exact ⟨0, _, Nat.zero_le _, rfl, hide (TimesInv.start DD_gt1 xs ys), hown1, hb1⟩
  case round =>
    obtain ⟨k, o, hk, rfl, hinv, hown, hbw⟩ := hrel
    rcases Nat.lt_or_ge k xs.length with hlt | hge
    · obtain ⟨b, off, rfl, hb, hc⟩ := hat (by omega)
      obtain ⟨x, hx⟩ : ∃ x, x = nth xs k := ⟨_, rfl⟩
      have hxl : x < DD := by rw [hx]; exact hl.getD DD_pos k
      have HX := hide hx
      have HC := hide (fun wr hbw => RdN.cellW (wr := wr) hc hb hbw k hlt)
      rw [← hx] at HC
      clear hx hc hat
      go_wp2
      obtain ⟨wo, rfl⟩ : ∃ wo : World, wo = wr := ⟨_, rfl⟩
      go_loopw [7, 8] (fun y j wr => ∃ (i q : Nat) (p : List Nat), i ≤ ys.length ∧ j = .int .i64 (i : Int) ∧ y = .int .u32 (q : Int) ∧ Hid (TimesIn DD ys o p x k q i) ∧
        wr.ownsRow w.heap.size 75 1 (.slice (some ⟨w.heap.size, 0, none⟩) (xs.length + ys.length) (xs.length + ys.length)) (xs.length + ys.length) (U .u32 p) ∧ Below w.heap.size w wr) (fun _ j _ => ys.length - (intOf j).toNat)
      case atStart => exact ⟨0, 0, o, Nat.zero_le _, rfl, rfl, hide (hinv.out.inner DD_gt1 x), hown, hbw⟩
      case round =>
        obtain ⟨i, q, p, hi1, rfl, rfl, hin, hown, hbw⟩ := hrel
        rcases Nat.lt_or_ge i ys.length with hil | hig
        · obtain ⟨b2, off2, rfl, hb2, hc2⟩ := kat (by omega)
          have hcell := HC.out _ hbw
          have hcell2 := RdN.cellW hc2 hb2 hbw i hil
          have hA := own_cell hown (k + i) (by omega)
          obtain ⟨y, hy⟩ : ∃ y, y = nth ys i := ⟨_, rfl⟩
          have hyl : y < DD := by rw [hy]; exact kl.getD DD_pos i
          obtain ⟨z, hz⟩ : ∃ z, z = nth p (k + i) := ⟨_, rfl⟩
          have hzl : z < DD := by rw [hz]; exact hin.out.lim.getD DD_pos (k + i)
          have hq : q < DD := hin.out.car
          rw [← hy] at hcell2
          rw [← hz] at hA
          have hmul : x * y ≤ 65535 * 65535 := Nat.mul_le_mul (by unfold DD at hxl; omega) (by unfold DD at hyl; omega)
          obtain ⟨p1, hp1⟩ : ∃ p1, p1 = x * y := ⟨_, rfl⟩
          have hst := hin.out.step DD_gt1 hxl kl hil (by rw [hinv.out.len]; omega)
          have f1 : p.getD (k + i) 0 = z := hz.symm
          have f2 : ys.getD i 0 = y := hy.symm
          rw [f1, f2, ← hp1] at hst
          rw [← hp1] at hmul
          unfold DD at hq hzl
          obtain ⟨s, hs⟩ : ∃ s, s = z + (p1 + q) := ⟨_, rfl⟩
          rw [← hs] at hst
          have hsl : s < 4294967296 := by omega
          have HST := hide hst
          have e1 : (x : Int) * (y : Int) = (p1 : Int) := by rw [hp1, Int.natCast_mul]
          have w1 : IntKind.u32.wrap ((x : Int) * (y : Int)) = (p1 : Int) := by rw [e1]; exact IntWalk.u32_in _ (by omega)
          have w2 : IntKind.u32.wrap ((p1 : Int) + (z : Int)) = ((p1 + z : Nat) : Int) := by rw [IntWalk.u32_in _ (by omega), Int.natCast_add]
          have w3 : IntKind.i64.wrap ((k : Int) + (i : Int)) = ((k + i : Nat) : Int) := by rw [IntWalk.i64_in _ (by omega), Int.natCast_add]
          have i1 : (0 : Int) ≤ (k : Int) := by omega
          have i2 : (0 : Int) ≤ (i : Int) := by omega
          have i3 : (k : Int) < (xs.length : Int) := by omega
          have i4 : (i : Int) < (ys.length : Int) := by omega
          have i5 : ((k + i : Nat) : Int) < ((xs.length + ys.length : Nat) : Int) := by omega
          clear hst f1 f2 hz hy kat hc2 e1
          go_wp2_with fail
          go_quiet (fail)
          obtain ⟨r, hr⟩ : ∃ r, r = p1 + z := ⟨_, rfl⟩
          have E9 : Hid ((x : Int) * (y : Int) + (z : Int) = (r : Int)) := by unfold Hid; rw [hr, hp1, Int.natCast_add, Int.natCast_mul]
          rw [E9.out]
          have E10 : Hid ((r : Int) + (q : Int) = (s : Int)) := by unfold Hid; omega
          have hrq : r + q < 4294967296 := by omega
          have hown2 : (wr.drewN nq).ownsRow w.heap.size 75 1 (.slice (some ⟨w.heap.size, 0, none⟩) (xs.length + ys.length) (xs.length + ys.length)) (xs.length + ys.length) (U .u32 p) := hown
          have hbw2 := below_drewN hbw nq
          clear hown hbw w1 w2 w3 i1 i2 i3 i4 i5 hcell hcell2 hA hs hr E9 hmul hp1 hzl
          generalize wr.drewN nq = W2 at *
          have hA := own_cell hown2 (k + i) (by omega)
          have fA := hown2.frozenAt (k + i)
          go_upto_region 14 with fail
          rw [E10.out]
          clear E10 hrq
          go_wp2
          go_roundw
          case rel => exact ⟨i + 1, s / DD, _, by omega, by go_num, by simp [DD], HST, by
            have h5 := own_set hown2 (k + i) (s % DD)
            rw [← and16 hsl] at h5
            exact h5, hbw2.setCell (Nat.le_refl _) _⟩
          case measure => simp [intOf]; omega
        · obtain rfl : i = ys.length := by omega
          have HST := hide (hinv.out.step (by rw [show xs.getD k 0 = x from HX.out.symm]; exact hin.out) hlt)
          have hq : q < DD := hin.out.car
          have hzero : nth p (k + ys.length) = 0 := hin.out.zero _ (Nat.le_refl _)
          unfold DD at hq
          clear HC kat
          go_wp2
          obtain ⟨wo2, rfl⟩ : ∃ wo : World, wo = wr := ⟨_, rfl⟩
          go_loopw [7, 12] (fun y j wr => ∃ (t jj : Nat) (r : List Nat), y = .int .u32 (t : Int) ∧ j = .int .i64 (jj : Int) ∧ jj ≤ 1000000 ∧ ((t = q ∧ jj = k + ys.length ∧ r = p) ∨ (t = 0 ∧ r = p.set (k + ys.length) q)) ∧
            wr.ownsRow w.heap.size 75 1 (.slice (some ⟨w.heap.size, 0, none⟩) (xs.length + ys.length) (xs.length + ys.length)) (xs.length + ys.length) (U .u32 r) ∧ Below w.heap.size w wr) (fun y _ _ => (intOf y).toNat)
          case atStart => exact ⟨q, k + ys.length, p, rfl, by simp, by omega, .inl ⟨rfl, rfl, rfl⟩, hown, hbw⟩
          case round =>
            obtain ⟨t, jj, r, rfl, rfl, hjj, hcase, hown3, hbw3⟩ := hrel
            rcases Nat.eq_zero_or_pos t with h0 | hpos
            · subst h0
              have hset : r = p.set (k + ys.length) q := by
                rcases hcase with ⟨hq0, _, hr⟩ | ⟨_, hr⟩
                · rw [← hq0, hr]
                  apply List.ext_getElem (by simp)
                  intro j h1 h2
                  rw [List.getElem_set]
                  split
                  · rename_i e
                    subst e
                    unfold nth at hzero
                    rw [List.getD_eq_getElem?_getD, List.getElem?_eq_getElem h1] at hzero
                    simpa using hzero
                  · rfl
                · exact hr
              rw [← hset] at HST
              clear hset hcase hzero
              go_wp2
              go_roundw
              case rel => exact ⟨k + 1, _, by omega, by go_num, HST, hown3, hbw3⟩
              case measure => simp [intOf]; omega
            · obtain ⟨rfl, rfl, rfl⟩ : t = q ∧ jj = k + ys.length ∧ r = p := by
                rcases hcase with h | h
                · exact h
                · omega
              have hA := own_cell hown3 (k + ys.length) (by omega)
              have fA := hown3.frozenAt (k + ys.length)
              rw [hzero, Int.natCast_zero] at hA
              have EA : Hid (bits .and .u32 (t : Int) 65535 = (t : Int)) := by unfold Hid; rw [and16 (by omega), Nat.mod_eq_of_lt (by unfold DD; omega)]
              have e16 : Hid ((t : Int) / 65536 = 0) := by unfold Hid; omega
              have hp0 : (0 : Int) < (t : Int) := by omega
              clear hcase hzero
              go_wp2
              go_roundw
              case rel => exact ⟨0, k + ys.length + 1, _, by simp [e16.out], by go_num, by omega, .inr ⟨rfl, rfl⟩, by
                have h5 := own_set hown3 (k + ys.length) t
                rw [← EA.out] at h5
                exact h5, hbw3.setCell (Nat.le_refl _) _⟩
              case measure => simp [intOf]; omega
    · obtain rfl : k = xs.length := by omega
      have hi2 := hinv.out
      have hv := hide (hi2.last)
      have hlo := hi2.lim
      have hrd := RdN.of_own hown
      clear hat kat hi2 hinv
      go_wp2_with (go_at_call 60; refine (rtrim_any _ _ _ _ _ hrd).mono ?_; rintro e w' ⟨A2, c2, rfl, hr2, rfl⟩)
      go_ret
      refine ⟨_, rfl, ⟨_, _, _, rfl, ?_⟩, hbw⟩
      rw [trimL_limbs DD_gt1 hlo, hv.out, HV.out, KV.out] at hr2 ⊢
      exact hr2
end Go.Proofs.YteodljieiloebaaDoor
