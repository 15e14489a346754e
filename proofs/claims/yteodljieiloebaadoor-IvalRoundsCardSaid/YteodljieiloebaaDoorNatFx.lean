/- Contracts of package nat, part F: the quotient by one limb; padding. -/
import Derived.Test.YteodljieiloebaaDoorNatDx
import Derived.Test.YteodljieiloebaaDoorDivx
namespace Go.Proofs.YteodljieiloebaaDoor
open Go.RowKit Pl

set_option maxRecDepth 100000 in
set_option maxHeartbeats 2000000 in
theorem short_any (A : Option Addr) (n c : Nat) (xs : List Nat) (b : Nat) (w : World) (h : RdN .u64 w A n c xs) (hl : Lim BB xs) (hn : n ≤ 100000) (hb0 : 0 < b) (hb : b < BB) :
    Calls Tryd.prog 97 #[.slice A n c, .int .u64 (b : Int)] w fun e w' => ∃ u v, e = .returned (.tuple #[u, v]) ∧ R64 w' u (val BB xs / b) ∧ R64 w' v (val BB xs % b) ∧ Below w.heap.size w w' := by
  obtain ⟨hlen, hcap, hmax, hat⟩ := h
  unfold maxLen at hmax
  subst hlen
  obtain ⟨i0, hi, hz0, hz1, hz2⟩ := info_parts info_u64
  go_enter Tryd.func97, Tryd.ntmps97
  go_wp2_with (at_make; refine wpList_make_full _ rfl _ _ 24 rfl w.heap.size 58 i0 _ 1 Tryd.underlying24 hi hz0 hz1 .i64 .i64 _ _ xs.length rfl rfl ?c1 ?c2 ?c3 ?c4 ?c5 ?_)
  case c1 => omega
  case c2 => omega
  case c3 => rw [hz2]; omega
  case c4 => unfold maxLen; omega
  case c5 => exact Nat.le_refl _
  intro w1 hown1 hg1
  rw [made_u64] at hown1
  have hb1 : Below w.heap.size w w1 := (Below.refl _ _).grown hg1 (Nat.le_refl _) (by simp)
  go_wp2
  go_loopw [7, 8] (fun y i wr => ∃ (k r : Nat) (q : List Nat), k ≤ xs.length ∧ i = .int .i64 ((k : Int) - 1) ∧ y = .int .u64 (r : Int) ∧ Hid (ShortInv BB xs q b r k) ∧
    wr.ownsRow w.heap.size 58 1 (.slice (some ⟨w.heap.size, 0, none⟩) xs.length xs.length) xs.length (U .u64 q) ∧ Below w.heap.size w wr) (fun _ i _ => (intOf i + 1).toNat)
  case atStart => exact ⟨xs.length, 0, _, Nat.le_refl _, rfl, rfl, hide (ShortInv.start BB_gt1 xs b hb0), hown1, hb1⟩
  case round =>
    obtain ⟨k, r, q, hk, rfl, rfl, hinv, hown, hbw⟩ := hrel
    rcases Nat.eq_zero_or_pos k with rfl | hpos
    · have hi2 := hinv.out
      have hv := hide hi2.last
      have hlo := hi2.lim
      have hr : r < b := hi2.rest
      obtain ⟨A2, c2, e2, hrd, hr2⟩ := trim_row hown hlo
      injection e2 with e21 e22 e23
      subst e21 e23
      have et := trimL_limbs BB_gt1 hlo
      rw [hv.out.1] at hr2 et
      have ET := hide et
      have hrB : RdN .u64 (wr.alloc (.cells #[.int .u64 (r : Int)] 58)) (some ⟨wr.heap.size, 0, none⟩) 1 1 [r] := ⟨rfl, Nat.le_refl _, by decide, fun _ => ⟨wr.heap.size, 0, rfl, by simp, fun k hk => by
        obtain rfl : k = 0 := by omega
        simp [go_sem, nth]⟩⟩
      have hlr : Lim BB [r] := Lim.cons (by omega) Lim.nil
      have hr3 : RdN .u64 (wr.alloc (.cells #[.int .u64 (r : Int)] 58)) (some ⟨wr.heap.size, 0, none⟩) (trimL [r]).length 1 (trimL [r]) := by
        have h2 := hrB.take (m := (trimL [r]).length) (trimL_len [r])
        rwa [← trimL_take] at h2
      have er : trimL [r] = limbs BB (val BB xs % b) := by rw [trimL_limbs BB_gt1 hlr, ← hv.out.2]; simp
      have ER := hide er
      have hr4 := hr2.below (by go_grown : Below wr.heap.size wr (wr.alloc (.cells #[.int .u64 (r : Int)] 58)))
      clear hi2 hinv et er hr
      go_wp2_with (go_at_call 100; first | (with_reducible refine (trim_any _ _ _ _ _ hrd).mono ?_; rintro e w' ⟨rfl, rfl⟩) | (with_reducible refine (trim_any _ _ _ _ _ hrB).mono ?_; rintro e w' ⟨rfl, rfl⟩))
      go_ret2
      refine ⟨_, _, rfl, ⟨_, (trimL q).length, _, rfl, ?_⟩, ⟨_, (trimL [r]).length, _, rfl, ?_⟩, hbw.alloc hbw.size _⟩
      · rw [ET.out]; exact hr4
      · rw [← ER.out]; exact hr3
    · obtain ⟨j, rfl⟩ : ∃ j, k = j + 1 := ⟨k - 1, by omega⟩
      obtain ⟨bb, off, rfl, hbb, hc⟩ := hat (by omega)
      have hcell := RdN.cellW hc hbb hbw j (by omega)
      have hA := own_cell hown j (by omega)
      have fA := hown.frozenAt j
      have ej : (((j + 1 : Nat) : Int) - 1) = (j : Int) := by omega
      rw [ej]
      clear ej hat hc
      have hr : r < b := hinv.out.rest
      obtain ⟨x, hx⟩ : ∃ x, x = nth xs j := ⟨_, rfl⟩
      have hxl : x < BB := by rw [hx]; exact hl.getD BB_pos j
      rw [← hx] at hcell
      have hst := (hinv.out.step hl BB_gt1 (by omega)).1
      rw [show xs.getD j 0 = x from hx.symm] at hst
      obtain ⟨q1, hq1⟩ : ∃ q1, q1 = (r * BB + x) / b := ⟨_, rfl⟩
      obtain ⟨r1, hr1⟩ : ∃ r1, r1 = (r * BB + x) % b := ⟨_, rfl⟩
      rw [← hq1, ← hr1] at hst
      have HST := hide hst
      have hD := fun w => div64_any r x b w hr hxl hb
      rw [← hq1, ← hr1] at hD
      have HD := hide hD
      clear hst hq1 hr1 hD hx hr
      go_wp2_with fail
      refine (HD.out _).mono ?_
      rintro e w2 ⟨rfl, hb2⟩
      have hown2 := own_below hown hb2
      have hA2 := own_cell hown2 j (by omega)
      have fA2 := hown2.frozenAt j
      have hbw2 := below_then hbw hb2
      clear hown hA fA hcell hbw hb2
      go_wp2
      go_roundw
      case rel => exact ⟨j, r1, _, by omega, by go_num, rfl, HST, own_set hown2 j q1, hbw2.setCell (Nat.le_refl _) _⟩
      case measure => simp [intOf]
end Go.Proofs.YteodljieiloebaaDoor
