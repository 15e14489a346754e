/- Contracts of package nat, part C: copies, shifts. -/
import Derived.Test.YtaifjldpjkabjaaDoorNatB
namespace Go.Proofs.YtaifjldpjkabjaaDoor
open Go.RowKit Pl

theorem info_u64 : (Tryd.prog.info? 38).map (fun i => (i.zero, i.size, i.bytes)) = some (some (.int .u64 0), 1, 8) := by kernel_rfl
theorem made_u64 (n : Nat) : (madeCells #[Value.int .u64 0] n).toList = U .u64 (List.replicate n 0) := by
  rw [← U_zeros]
  exact toList_madeCells_one _ _

set_option maxRecDepth 100000 in
set_option maxHeartbeats 1000000 in
theorem left_any (A : Option Addr) (n c : Nat) (xs : List Nat) (m : Nat) (w : World) (h : RdN .u64 w A n c xs) (hl : Lim BB xs) (hn : n ≤ 100000) (hm : m ≤ 1000000) :
    Calls Tryd.prog 112 #[.slice A n c, .int .i64 (m : Int)] w fun e w' => ∃ A' n' c', e = .returned (.slice A' n' c') ∧ RdN .u64 w' A' n' c' (limbs BB (val BB xs * 2 ^ m)) ∧ Below w.heap.size w w' := by
  obtain ⟨hlen, hcap, hmax, hat⟩ := h
  unfold maxLen at hmax
  subst hlen
  obtain ⟨i0, hi, hz0, hz1, hz2⟩ := info_parts info_u64
  by_cases h0 : xs.length = 0
  · have e0 : ((xs.length : Int) == 0) = true := by simp [h0]
    have hres : Hid (limbs BB (val BB xs * 2 ^ m) = []) := by
      rw [List.length_eq_zero_iff.1 h0]
      unfold Hid
      rw [val_nil, Nat.zero_mul]
      rfl
    go_enter Tryd.func112, Tryd.ntmps112
    go_wp2
    go_ret
    exact ⟨_, _, _, rfl, by rw [hres.out]; exact RdN.nil _ _, Below.refl _ _⟩
  · obtain ⟨b, off, rfl, hb, hc⟩ := hat (by omega)
    have e0 : ((xs.length : Int) == 0) = false := beq_eq_false_iff_ne.2 (by omega)
    clear hat
    go_enter Tryd.func112, Tryd.ntmps112
    go_wp2_with (at_make; refine wpList_make_full _ rfl _ _ 22 rfl w.heap.size 38 i0 _ 1 Tryd.underlying22 hi hz0 hz1 .i64 .i64 _ _ (m / 64 + xs.length + 1) rfl rfl ?c1 ?c2 ?c3 ?c4 ?c5 ?_)
    case c1 => omega
    case c2 => omega
    case c3 => rw [hz2]; omega
    case c4 => unfold maxLen; omega
    case c5 => exact Nat.le_refl _
    intro w1 hown1 hg1
    rw [made_u64] at hown1
    have hb1 : Below w.heap.size w w1 := (Below.refl _ _).grown hg1 (Nat.le_refl _) (by simp)
    go_wp2
    go_loopw [20] (fun i wr => ∃ (k : Nat) (o : List Nat), k ≤ xs.length ∧ i = .int .i64 (k : Int) ∧ Hid (LeftInv xs o (m / 64) (m % 64) k) ∧
      wr.ownsRow w.heap.size 38 1 (.slice (some ⟨w.heap.size, 0, none⟩) (m / 64 + xs.length + 1) (m / 64 + xs.length + 1)) (m / 64 + xs.length + 1) (U .u64 o) ∧ Below w.heap.size w wr) (fun i _ => xs.length - (intOf i).toNat)
    case atStart => exact ⟨0, _, Nat.zero_le _, rfl, hide (LeftInv.start xs (m / 64) (m % 64)), hown1, hb1⟩
    case round =>
      obtain ⟨k, o, hk, rfl, hinv, hown, hbw⟩ := hrel
      rcases Nat.lt_or_ge k xs.length with hlt | hge
      · have hcell := RdN.cellW hc hb hbw k hlt
        have hA := own_cell hown (m / 64 + k) (by omega)
        have hB := own_cell hown (m / 64 + k + 1) (by omega)
        have fA := hown.frozenAt (m / 64 + k)
        have fB := hown.frozenAt (m / 64 + k + 1)
        go_wp2
        go_roundw
        case rel =>
          have hi := hinv.out
          have e1 := or_lo (x := nth xs k) hi.top (Nat.mod_lt m (by omega))
          have ez : nth o (m / 64 + k + 1) = 0 := hi.zero _ (by omega)
          have e2 := shr_hi (x := nth xs k) (Nat.mod_lt m (show 64 > 0 by omega))
          have e3 : nth xs k / 2 ^ (64 - m % 64) < BB := Nat.lt_of_le_of_lt (Nat.div_le_self _ _) (hl.getD BB_pos k)
          refine ⟨k + 1, _, by omega, by go_num, hide (hi.step hl (Nat.mod_lt m (by omega)) hlt), ?_, ?_⟩
          · have e1' : bits .or .u64 (nth o (m / 64 + k) : Int) (IntKind.u64.wrap ((nth xs k : Int) * 2 ^ (m % 64))) = ((nth o (m / 64 + k) + nth xs k * 2 ^ (m % 64) % BB : Nat) : Int) := e1
            rw [e1', ez, e2, Int.natCast_zero, or_zero_left e3]
            exact own_set (own_set hown _ _) _ _
          · exact (hbw.setCell (Nat.le_refl _) _).setCell (Nat.le_refl _) _
        case measure => simp [intOf]; omega
      · obtain rfl : k = xs.length := by omega
        have hi := hinv.out
        have hrd := RdN.of_own hown
        have hv := hide (hi.last)
        have hlo := hi.lim
        clear hi hinv
        go_wp2_with (go_at_call 110; refine (trim_any _ _ _ _ _ hrd).mono ?_; rintro e w' ⟨rfl, rfl⟩)
        go_ret
        refine ⟨_, _, _, rfl, ?_, hbw⟩
        have h2 := hrd.take (trimL_len o |> fun h => by rw [own_len hown] at h; exact h)
        rw [← trimL_take, trimL_limbs BB_gt1 hlo, hv.out, show 64 * (m / 64) + m % 64 = m by omega] at h2
        rw [trimL_limbs BB_gt1 hlo, hv.out, show 64 * (m / 64) + m % 64 = m by omega]
        exact h2

set_option maxRecDepth 100000 in
set_option maxHeartbeats 1000000 in
theorem right_any (A : Option Addr) (n c : Nat) (xs : List Nat) (m : Nat) (w : World) (h : RdN .u64 w A n c xs) (hl : Lim BB xs) (hn : n ≤ 100000) (hm : m ≤ 10000000) :
    Calls Tryd.prog 106 #[.slice A n c, .int .i64 (m : Int)] w fun e w' => ∃ A' n' c', e = .returned (.slice A' n' c') ∧ RdN .u64 w' A' n' c' (limbs BB (val BB xs / 2 ^ m)) ∧ Below w.heap.size w w' := by
  obtain ⟨hlen, hcap, hmax, hat⟩ := h
  unfold maxLen at hmax
  subst hlen
  obtain ⟨i0, hi, hz0, hz1, hz2⟩ := info_parts info_u64
  by_cases h0 : xs.length ≤ m / 64
  · have hres : Hid (limbs BB (val BB xs / 2 ^ m) = []) := by
      unfold Hid
      rw [right_none hl h0]
      rfl
    go_enter Tryd.func106, Tryd.ntmps106
    go_wp2
    go_ret
    exact ⟨_, _, _, rfl, by rw [hres.out]; exact RdN.nil _ _, Below.refl _ _⟩
  · obtain ⟨b, off, rfl, hb, hc⟩ := hat (by omega)
    have hlt0 : m / 64 < xs.length := by omega
    clear hat
    go_enter Tryd.func106, Tryd.ntmps106
    go_wp2_with (at_make; refine wpList_make_full _ rfl _ _ 22 rfl w.heap.size 38 i0 _ 1 Tryd.underlying22 hi hz0 hz1 .i64 .i64 _ _ (xs.length - m / 64) rfl rfl ?c1 ?c2 ?c3 ?c4 ?c5 ?_)
    case c1 => omega
    case c2 => omega
    case c3 => rw [hz2]; omega
    case c4 => unfold maxLen; omega
    case c5 => exact Nat.le_refl _
    intro w1 hown1 hg1
    rw [made_u64] at hown1
    have hb1 : Below w.heap.size w w1 := (Below.refl _ _).grown hg1 (Nat.le_refl _) (by simp)
    go_wp2
    obtain ⟨ys, hys⟩ : ∃ ys, ys = xs.drop (m / 64) := ⟨_, rfl⟩
    have hyl : ys.length = xs.length - m / 64 := by rw [hys, List.length_drop]
    have hY : Lim BB ys := by rw [hys]; exact hl.drop _
    have hcy : ∀ k, k < ys.length → w.cell? ⟨b, off + m / 64 + k, none⟩ = some (.int .u64 (nth ys k : Nat)) := fun k hk => by
      rw [hys, nth_drop, Nat.add_assoc]
      exact hc _ (by omega)
    go_loopw [22] (fun i wr => ∃ (k : Nat) (o : List Nat), k ≤ ys.length ∧ i = .int .i64 (k : Int) ∧ Hid (RightInv ys o (m % 64) k) ∧
      wr.ownsRow w.heap.size 38 1 (.slice (some ⟨w.heap.size, 0, none⟩) (xs.length - m / 64) (xs.length - m / 64)) (xs.length - m / 64) (U .u64 o) ∧ Below w.heap.size w wr) (fun i _ => xs.length - (intOf i).toNat)
    case atStart => exact ⟨0, _, Nat.zero_le _, rfl, hide (by rw [← hyl]; exact RightInv.start ys (m % 64)), hown1, hb1⟩
    case round =>
      obtain ⟨k, o, hk, rfl, hinv, hown, hbw⟩ := hrel
      have HY := hide hys
      have HL := hide hyl
      have hyl1 : ys.length + m / 64 ≤ xs.length ∧ xs.length ≤ ys.length + m / 64 := by omega
      obtain ⟨hy1, hy2⟩ := hyl1
      clear hys hyl
      rcases Nat.lt_or_ge k ys.length with hlt | hge
      · have hcell := RdN.cellW hcy hb hbw k hlt
        have hA := own_cell hown k (by omega)
        have fA := hown.frozenAt k
        have i1 : (0 : Int) ≤ (k : Int) := by omega
        by_cases hn1 : k + 1 < ys.length
        · have hcell2 := RdN.cellW hcy hb hbw (k + 1) hn1
          have i2 : (k : Int) + 1 < (xs.length : Int) - (m : Int) / 64 := by omega
          go_wp2_with fail
          go_region
          go_wp2
          go_roundw
          case rel =>
            have hi := hinv.out
            have hr := Nat.mod_lt m (show 64 > 0 by omega)
            have hx : nth ys k < BB := hY.getD BB_pos k
            have e1 := or_hi (y := nth ys (k + 1)) hx hr
            refine ⟨k + 1, _, by omega, by go_num, hide (hi.step hY hr hlt), ?_, ?_⟩
            · rw [e1, shr_val]
              have h2 := own_set (own_set hown k (nth ys k / 2 ^ (m % 64))) k (rlimb (nth ys k) (nth ys (k + 1)) (m % 64))
              rw [List.set_set] at h2
              exact h2
            · exact ((hbw.setCell (Nat.le_refl _) _).setCell (Nat.le_refl _) _).drew
          case measure => simp [intOf]; omega
        · have i2 : ¬ (k : Int) + 1 < (xs.length : Int) - (m : Int) / 64 := by omega
          go_wp2
          go_roundw
          case rel =>
            have hi := hinv.out
            have hr := Nat.mod_lt m (show 64 > 0 by omega)
            refine ⟨k + 1, _, by omega, by go_num, hide (hi.step hY hr hlt), ?_, ?_⟩
            · have h3 : ys.getD (k + 1) 0 = 0 := by simp [List.getD_eq_getElem?_getD, List.getElem?_eq_none (show ys.length ≤ k + 1 by omega)]
              have h4 : rlimb (ys.getD k 0) (ys.getD (k + 1) 0) (m % 64) = nth ys k / 2 ^ (m % 64) := by
                rw [h3]; unfold rlimb; rw [Nat.zero_mul, Nat.zero_mod, Nat.add_zero]; rfl
              rw [h4, shr_val]
              exact own_set hown k _
            · exact hbw.setCell (Nat.le_refl _) _
          case measure => simp [intOf]; omega
      · obtain rfl : k = ys.length := by omega
        have hi := hinv.out
        have hrd := RdN.of_own hown
        have hv := hide (right_whole hl hlt0 (o := o) (by rw [hi.last, HY.out]))
        have hlo := hi.lim
        clear hi hinv
        go_wp2_with (go_at_call 110; refine (trim_any _ _ _ _ _ hrd).mono ?_; rintro e w' ⟨rfl, rfl⟩)
        go_ret
        refine ⟨_, _, _, rfl, ?_, hbw⟩
        have h2 := hrd.take (trimL_len o |> fun h => by rw [own_len hown] at h; exact h)
        rw [← trimL_take, trimL_limbs BB_gt1 hlo, hv.out] at h2
        rw [trimL_limbs BB_gt1 hlo, hv.out]
        exact h2

theorem left_int (A : Option Addr) (n c : Nat) (xs : List Nat) (k : Int) (w : World) (h : RdN .u64 w A n c xs) (hl : Lim BB xs) (hn : n ≤ 100000) (hk0 : 0 ≤ k) (hk : k ≤ 1000000) :
    Calls Tryd.prog 112 #[.slice A n c, .int .i64 k] w fun e w' => ∃ A' n' c', e = .returned (.slice A' n' c') ∧ RdN .u64 w' A' n' c' (limbs BB (val BB xs * 2 ^ k.toNat)) ∧ Below w.heap.size w w' := by
  obtain ⟨m, rfl⟩ := Int.eq_ofNat_of_zero_le hk0
  rw [Int.toNat_natCast]
  exact left_any A n c xs m w h hl hn (by omega)
theorem right_int (A : Option Addr) (n c : Nat) (xs : List Nat) (k : Int) (w : World) (h : RdN .u64 w A n c xs) (hl : Lim BB xs) (hn : n ≤ 100000) (hk0 : 0 ≤ k) (hk : k ≤ 10000000) :
    Calls Tryd.prog 106 #[.slice A n c, .int .i64 k] w fun e w' => ∃ A' n' c', e = .returned (.slice A' n' c') ∧ RdN .u64 w' A' n' c' (limbs BB (val BB xs / 2 ^ k.toNat)) ∧ Below w.heap.size w w' := by
  obtain ⟨m, rfl⟩ := Int.eq_ofNat_of_zero_le hk0
  rw [Int.toNat_natCast]
  exact right_any A n c xs m w h hl hn (by omega)
end Go.Proofs.YtaifjldpjkabjaaDoor
