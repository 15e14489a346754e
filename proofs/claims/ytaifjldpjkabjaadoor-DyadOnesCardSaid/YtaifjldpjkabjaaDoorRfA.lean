/- Contracts of the document's answer sluicewayref1, part A: trim, From, Cmp, Bits. -/
import Derived.Test.YtaifjldpjkabjaaDoorKitB
namespace Go.Proofs.YtaifjldpjkabjaaDoor
open Go.RowKit Pl

theorem info_u32 : (Tryd.prog.info? 75).map (fun i => (i.zero, i.size, i.bytes)) = some (some (.int .u32 0), 1, 4) := by kernel_rfl
theorem made_u32 (n : Nat) : (madeCells #[Value.int .u32 0] n).toList = U .u32 (List.replicate n 0) := by
  rw [← U_zeros]
  exact toList_madeCells_one _ _

set_option maxHeartbeats 1000000 in
theorem rtrim_at (A : Option Addr) (n c : Nat) (xs : List Nat) (w : World) (h : RdN .u32 w A n c xs) :
    Calls Tryd.prog 71 #[.slice A n c] w fun e w' => ∃ A' c', e = .returned (.slice A' (trimL xs).length c') ∧ (RdN .u32 w A' (trimL xs).length c' (trimL xs) ∧ (0 < (trimL xs).length → A' = A)) ∧ w = w' := by
  have h' := h
  obtain ⟨hlen, hcap, hmax, hat⟩ := h
  unfold maxLen at hmax
  subst hlen
  have HR := hide h'
  clear h'
  go_enter Tryd.func71, Tryd.ntmps71
  go_wp2
  go_loop [3] (fun a => ∃ m : Nat, m ≤ xs.length ∧ a = .int .i64 (m : Int) ∧ Hid (trimL (xs.take m) = trimL xs)) (fun a => (intOf a).toNat)
  case atStart => exact ⟨xs.length, Nat.le_refl _, rfl, by rw [List.take_length]; exact hide rfl⟩
  case round =>
    obtain ⟨m, hm, rfl, hT⟩ := hrel
    rcases Nat.eq_zero_or_pos m with rfl | hpos
    · have hT' := hT.out
      rw [List.take_zero] at hT'
      have hE : Hid ((trimL xs).length = 0) := by rw [← hT']; exact hide rfl
      have hN : Hid (trimL xs = []) := hT'.symm
      clear hT' hT
      rcases A with _ | ⟨b, o, i⟩
      · go_wp2
        go_ret
        exact ⟨none, c, ret_slice hE.out.symm, ⟨by rw [hE.out, hN.out]; exact RdN.empty _ _ _ _ (by unfold maxLen; omega), fun _ => rfl⟩, rfl⟩
      · go_wp2
        go_ret
        exact ⟨_, c, ret_slice hE.out.symm, ⟨by rw [hE.out, hN.out]; exact RdN.empty _ _ _ _ (by unfold maxLen; omega), fun h => by have := hE.out; omega⟩, rfl⟩
    · obtain ⟨k, rfl⟩ : ∃ k, m = k + 1 := ⟨m - 1, by omega⟩
      obtain ⟨b, off, rfl, hb, hc⟩ := hat (by omega)
      have hcell := hc k (by omega)
      by_cases hk : nth xs k = 0
      · have e1 : ((nth xs k : Int) == 0) = true := by simp [hk]
        have e2 := hide (trimL_step_zero hm hk)
        clear hat
        go_wp2
        go_round
        case rel => exact ⟨k, by omega, by go_num, hide (e2.out.symm.trans hT.out)⟩
        case measure => simp [intOf]
      · have e1 : ((nth xs k : Int) == 0) = false := by simp; omega
        have e2 := hide (trimL_step_done hm hk)
        clear hat
        go_wp2
        go_ret
        have h2 := e2.out
        rw [hT.out] at h2
        refine ⟨_, c, ret_slice h2.symm, ⟨?_, fun _ => rfl⟩, rfl⟩
        have h3 := HR.out.take (m := (trimL xs).length) (trimL_len xs)
        rw [← trimL_take] at h3
        exact h3
theorem rtrim_any (A : Option Addr) (n c : Nat) (xs : List Nat) (w : World) (h : RdN .u32 w A n c xs) :
    Calls Tryd.prog 71 #[.slice A n c] w fun e w' => ∃ A' c', e = .returned (.slice A' (trimL xs).length c') ∧ RdN .u32 w A' (trimL xs).length c' (trimL xs) ∧ w = w' :=
  (rtrim_at A n c xs w h).mono fun _ _ ⟨A', c', he, ⟨hr, _⟩, hw⟩ => ⟨A', c', he, hr, hw⟩

/-- Sixteen bits of a word. -/
theorem dig16 {x j : Nat} (hj : j < 4) : bits .and .u32 ((x : Int) / 2 ^ (16 * j) % 4294967296) 65535 = (((parts x).getD j 0 : Nat) : Int) := by
  have e1 : ((x : Int) / 2 ^ (16 * j)) = ((x / 2 ^ (16 * j) : Nat) : Int) := by rw [Int.natCast_ediv, Int.natCast_pow]; rfl
  have e2 : ((x / 2 ^ (16 * j) : Nat) : Int) % 4294967296 = ((x / 2 ^ (16 * j) % 4294967296 : Nat) : Int) := by omega
  have e3 := u32_and_nat (x / 2 ^ (16 * j) % 4294967296) 65535 (Nat.mod_lt _ (by omega)) (by omega)
  rw [nat_mask16] at e3
  rw [e1, e2]
  refine e3.trans ?_
  have e4 : (parts x).getD j 0 = x / 2 ^ (16 * j) % DD := by
    have hD : ∀ k, DD ^ k = 2 ^ (16 * k) := pow_DD
    rcases (show j = 0 ∨ j = 1 ∨ j = 2 ∨ j = 3 by omega) with rfl | rfl | rfl | rfl
    · simp [parts]
    · simp [parts, DD]
    · simp [parts, DD]
    · simp [parts, DD]
  rw [e4]
  unfold DD
  omega
theorem parts_len (x : Nat) : (parts x).length = 4 := rfl

set_option maxRecDepth 100000 in
set_option maxHeartbeats 1000000 in
theorem from_any (A : Option Addr) (n c : Nat) (xs : List Nat) (w : World) (h : RdN .u64 w A n c xs) (hl : Lim BB xs) (hn : n ≤ 100000) :
    Calls Tryd.prog 19 #[.slice A n c] w fun e w' => ∃ A' n' c', e = .returned (.slice A' n' c') ∧ RdN .u32 w' A' n' c' (limbs DD (val BB xs)) ∧ Below w.heap.size w w' := by
  obtain ⟨hlen, hcap, hmax, hat⟩ := h
  unfold maxLen at hmax
  subst hlen
  obtain ⟨i0, hi, hz0, hz1, hz2⟩ := info_parts info_u32
  go_enter Tryd.func19, Tryd.ntmps19
  go_wp2
  go_loopw [3, 4] (fun v i wr => ∃ k : Nat, k ≤ xs.length ∧ i = .int .i64 (k : Int) ∧ wr.ownsRow w.heap.size 75 1 v (4 * k) (U .u32 ((xs.take k).flatMap parts)) ∧ Below w.heap.size w wr) (fun _ i _ => xs.length - (intOf i).toNat)
  case atStart => exact ⟨0, Nat.zero_le _, rfl, World.ownsRow_nil _ _ _ _, Below.refl _ _⟩
  case round =>
    obtain ⟨k, hk, rfl, hown, hbw⟩ := hrel
    rcases Nat.lt_or_ge k xs.length with hlt | hge
    · obtain ⟨b, off, rfl, hb, hc⟩ := hat (by omega)
      go_wp2
      obtain ⟨wo, rfl⟩ : ∃ wo : World, wo = wr := ⟨_, rfl⟩
      go_loopw [3, 5] (fun v j wr => ∃ i : Nat, i ≤ 4 ∧ j = .int .i64 (i : Int) ∧ wr.ownsRow w.heap.size 75 1 v (4 * k + i) (U .u32 ((xs.take k).flatMap parts ++ (parts (nth xs k)).take i)) ∧ Below w.heap.size w wr) (fun _ j _ => 4 - (intOf j).toNat)
      case atStart => exact ⟨0, by omega, rfl, by simpa using hown, hbw⟩
      case round =>
        obtain ⟨j, hj, rfl, hown, hbw⟩ := hrel
        have hcell := RdN.cellW hc hb hbw k hlt
        rcases Nat.lt_or_ge j 4 with hjl | hjg
        · go_wp2_with (at_builtin; go_loud (refine wpList_append_own _ rfl _ _ 33 rfl w.heap.size 75 i0 (.int .u32 0) 1 4 Tryd.underlying33 hi hz0 hz1 hz2 rfl (by decide) _ _ _ rfl (hown.alloc _) ⟨wr.heap.size, 0, none⟩ 1 1 [.int .u32 (bits .and .u32 ((nth xs k : Int) / 2 ^ (16 * j) % 4294967296) 65535)] rfl rfl ?c1 ?c2 ?c3 ?c4 ?c5 ?_))
          case c1 => exact new_one
          case c2 => exact one_int _ _
          case c3 => unfold maxLen; omega
          case c4 => omega
          case c5 => exact base_app hbw
          intro v' w1 hown1 hg1 _
          have hb1 := below_app hbw hown hg1
          rw [U_snoc _ _ _ _ (dig16 (x := nth xs k) hjl)] at hown1
          clear hown hbw hg1
          go_wp2
          go_roundw
          case rel => exact ⟨j + 1, by omega, by go_num, by
            rw [List.take_succ_eq_append_getElem (by rw [parts_len]; omega), ← List.append_assoc]
            have e : (parts (nth xs k))[j]'(by rw [parts_len]; omega) = (parts (nth xs k)).getD j 0 := by rw [List.getD_eq_getElem?_getD, List.getElem?_eq_getElem (by rw [parts_len]; omega)]; rfl
            rw [e]
            exact hown1, hb1⟩
          case measure => simp [intOf]; omega
        · obtain rfl : j = 4 := by omega
          rw [show List.take 4 (parts (nth xs k)) = parts (nth xs k) from rfl] at hown
          go_wp2
          go_roundw
          case rel => exact ⟨k + 1, by omega, by go_num, by
            rw [List.take_succ_eq_append_getElem hlt, List.flatMap_append, List.flatMap_singleton]
            have e : xs[k] = nth xs k := by simp [nth, List.getD_eq_getElem?_getD, hlt]
            rw [e]
            exact hown, hbw⟩
          case measure => simp [intOf]; omega
    · obtain rfl : k = xs.length := by omega
      rw [List.take_length] at hown
      obtain ⟨A', c', rfl⟩ := own_slice hown
      have hrd := RdN.of_own hown
      have HV := hide (val_parts hl)
      go_wp2_with (go_at_call 71; refine (rtrim_any _ _ _ _ _ hrd).mono ?_; rintro e w' ⟨A2, c2, rfl, hr2, rfl⟩)
      go_ret
      refine ⟨_, _, _, rfl, ?_, hbw⟩
      rw [trimL_limbs DD_gt1 (lim_parts xs), HV.out] at hr2 ⊢
      exact hr2

/-- The order of digits. -/
theorem le_self (n : Nat) : n ≤ n := Nat.le_refl n
set_option maxHeartbeats 1000000 in
theorem rcmp_any (A : Option Addr) (n c : Nat) (xs : List Nat) (B : Option Addr) (m d : Nat) (ys : List Nat) (w : World) (h : RdN .u32 w A n c xs) (k : RdN .u32 w B m d ys) :
    Calls Tryd.prog 79 #[.slice A n c, .slice B m d] w fun e w' => e = .returned (.int .i64 (cmpL xs ys)) ∧ Below w.heap.size w w' := by
  obtain ⟨hlen, hcap, hmax, hat⟩ := h
  obtain ⟨klen, kcap, kmax, kat⟩ := k
  unfold maxLen at hmax kmax
  subst hlen klen
  by_cases hl : xs.length = ys.length
  · have hres : Hid (cmpL xs ys = cmpFrom xs ys xs.length) := by unfold cmpL; rw [if_neg (by omega), if_neg (by omega)]; exact hide rfl
    have el' : ((xs.length : Int) != (ys.length : Int)) = false := by simp [hl]
    have hl' : ys.length ≤ xs.length ∧ xs.length ≤ ys.length := by omega
    clear hl
    obtain ⟨hl1, hl2⟩ := hl'
    go_enter Tryd.func79, Tryd.ntmps79
    go_wp2
    go_loopw [5] (fun i wr => ∃ q : Nat, q ≤ xs.length ∧ i = .int .i64 ((q : Int) - 1) ∧ Hid (cmpFrom xs ys q = cmpL xs ys) ∧ Below w.heap.size w wr) (fun i _ => (intOf i + 1).toNat)
    case atStart => exact ⟨xs.length, Nat.le_refl _, rfl, hide hres.out.symm, Below.refl _ _⟩
    case round =>
      obtain ⟨q, hq, rfl, hT, hbw⟩ := hrel
      rcases Nat.eq_zero_or_pos q with rfl | hpos
      · go_wp2
        go_ret
        exact ⟨ret_int hT.out, hbw⟩
      · obtain ⟨j, rfl⟩ : ∃ j, q = j + 1 := ⟨q - 1, by omega⟩
        obtain ⟨b, off, rfl, hb, hc⟩ := hat (by omega)
        obtain ⟨b2, off2, rfl, hb2, hc2⟩ := kat (by omega)
        have hcell := RdN.cellW hc hb hbw j (by omega)
        have hcell2 := RdN.cellW hc2 hb2 hbw j (by omega)
        clear hat kat hc hc2
        have ej : (((j + 1 : Nat) : Int) - 1) = (j : Int) := by omega
        rw [ej]
        clear ej
        have i1 : (0 : Int) ≤ (j : Int) := by omega
        have i2 : (j : Int) < (xs.length : Int) := by omega
        have i3 : (j : Int) < (ys.length : Int) := by omega
        rcases Nat.lt_trichotomy (nth xs j) (nth ys j) with hlt | heq | hgt
        · have e2 : decide (nth xs j < nth ys j) = true := by simp; omega
          have hT2 := hide ((cmpFrom_lt hlt).symm.trans hT.out)
          clear hT
          go_wp2_with fail
          go_quiet (fail)
          go_wp2
          go_ret
          exact ⟨ret_int (Eq.trans rfl hT2.out), by repeat (first | assumption | refine below_drewN ?_ _)⟩
        · have e1 : decide (nth xs j < nth ys j) = false := by simp; omega
          have e2 : decide (nth ys j < nth xs j) = false := by simp; omega
          have hT2 := hide ((cmpFrom_eq heq).symm.trans hT.out)
          clear hT heq
          go_wp2_with fail
          go_quiet (fail)
          go_wp2_with fail
          go_quiet (fail)
          go_wp2
          go_roundw
          case rel => exact ⟨j, by omega, by go_num, hT2, by repeat (first | assumption | refine below_drewN ?_ _)⟩
          case measure => simp [intOf]
        · have e1 : decide (nth xs j < nth ys j) = false := by simp; omega
          have e2 : decide (nth ys j < nth xs j) = true := by simp; omega
          have hT2 := hide ((cmpFrom_gt hgt).symm.trans hT.out)
          clear hT
          go_wp2_with fail
          go_quiet (fail)
          go_wp2_with fail
          go_quiet (fail)
          go_wp2
          go_ret
          exact ⟨ret_int (Eq.trans rfl hT2.out), by repeat (first | assumption | refine below_drewN ?_ _)⟩
  · have el : ((xs.length : Int) != (ys.length : Int)) = true := by rw [bne_iff_ne]; omega
    by_cases hl2 : xs.length < ys.length
    · have hres : Hid (cmpL xs ys = -1) := by unfold cmpL; rw [if_pos hl2]; exact hide rfl
      go_enter Tryd.func79, Tryd.ntmps79
      go_wp2
      go_ret
      exact ⟨ret_int hres.out.symm, Below.refl _ _⟩
    · have hres : Hid (cmpL xs ys = 1) := by unfold cmpL; rw [if_neg hl2, if_pos (by omega)]; exact hide rfl
      go_enter Tryd.func79, Tryd.ntmps79
      go_wp2
      go_ret
      exact ⟨ret_int hres.out.symm, Below.refl _ _⟩

/-- How many bits digits have. -/
def bits16 (xs : List Nat) : Nat := if xs.length = 0 then 0 else 16 * (xs.length - 1) + blen (nth xs (xs.length - 1))
theorem bits16_can {xs : List Nat} (hl : Lim DD xs) (hc : Cnl xs) : bits16 xs = blen (val DD xs) := by
  unfold bits16
  split
  · rename_i h
    rw [List.length_eq_zero_iff.1 h]
    rfl
  · rename_i h
    have hne : xs ≠ [] := by intro e; rw [e] at h; exact h rfl
    have h1 := List.dropLast_concat_getLast hne
    have h2 : xs.getLast hne ≠ 0 := by
      intro e
      apply hc
      rw [List.getLast?_eq_some_getLast hne, e]
    have h3 := blen_limbs (w := 16) (xs := xs.dropLast) (x := xs.getLast hne) (by rw [← DD_eq]; intro y hy; exact hl y ((List.dropLast_sublist xs).subset hy)) h2
    rw [h1, List.length_dropLast] at h3
    rw [DD_eq, h3, nth, List.getD_eq_getElem?_getD, ← List.getLast?_eq_getElem?, List.getLast?_eq_some_getLast hne]
    rfl
theorem bits16_limbs (X : Nat) : bits16 (limbs DD X) = blen X := by
  rw [bits16_can (limbs_lim DD_gt1 _) (limbs_can DD_gt1 _), limbs_val DD_gt1]
set_option maxHeartbeats 1000000 in
theorem rbits_any (A : Option Addr) (n c : Nat) (xs : List Nat) (w : World) (h : RdN .u32 w A n c xs) (hl : Lim DD xs) (hn : n ≤ 1000000) :
    Calls Tryd.prog 78 #[.slice A n c] w fun e w' => e = .returned (.int .i64 (bits16 xs : Nat)) ∧ w = w' := by
  obtain ⟨hlen, hcap, hmax, hat⟩ := h
  unfold maxLen at hmax
  subst hlen
  by_cases h0 : xs.length = 0
  · have e0 : ((xs.length : Int) == 0) = true := by simp [h0]
    have hres : Hid (bits16 xs = 0) := by unfold bits16; rw [if_pos h0]; exact hide rfl
    clear h0
    go_enter Tryd.func78, Tryd.ntmps78
    go_wp2
    go_ret
    exact ⟨ret_int (by rw [hres.out]; rfl), rfl⟩
  · obtain ⟨b, off, rfl, hb, hc⟩ := hat (by omega)
    have e0 : ((xs.length : Int) == 0) = false := beq_eq_false_iff_ne.2 (by omega)
    have hcell := hc (xs.length - 1) (by omega)
    obtain ⟨x, hx⟩ : ∃ x, x = nth xs (xs.length - 1) := ⟨_, rfl⟩
    rw [← hx] at hcell
    have hxl : x < 65536 := by rw [hx]; exact hl.getD DD_pos (xs.length - 1)
    have hb16 : blen x ≤ 16 := blen_le.2 hxl
    have hres : Hid ((bits16 xs : Int) = 16 * ((xs.length : Int) - 1) + (blen x : Int)) := by unfold bits16 Hid; rw [if_neg h0, ← hx]; omega
    have hp : 1 ≤ xs.length := by omega
    have i0 : ((xs.length : Int) - 1).toNat = xs.length - 1 := by omega
    clear hat hc h0 hx
    go_enter Tryd.func78, Tryd.ntmps78
    go_wp2
    go_loop [3, 4] (fun q y => ∃ k : Nat, k ≤ blen x ∧ q = .int .i64 (16 * ((xs.length : Int) - 1) + (k : Int)) ∧ y = .int .u32 ((x / 2 ^ k : Nat) : Int)) (fun _ y => (intOf y).toNat)
    case atStart => exact ⟨0, Nat.zero_le _, by simp, by simp⟩
    case round =>
      obtain ⟨k, hk, rfl, rfl⟩ := hrel
      have e3 : Hid (x / 2 ^ (k + 1) = x / 2 ^ k / 2) := by rw [Nat.pow_succ, Nat.div_div_eq_div_mul]; exact hide rfl
      obtain ⟨y, hy⟩ : ∃ y, y = x / 2 ^ k := ⟨_, rfl⟩
      have hyl : y ≤ 65536 := by rw [hy]; exact Nat.le_trans (Nat.div_le_self _ _) (by omega)
      have HY := hide hy
      rw [← hy]
      clear hy
      by_cases hy0 : 0 < y
      · have hk2 : k < blen x := by
          rw [lt_blen]
          have := HY.out
          rcases Nat.lt_or_ge x (2 ^ k) with h | h
          · rw [Nat.div_eq_of_lt h] at this; omega
          · exact h
        go_wp2
        go_round
        case rel => exact ⟨k + 1, hk2, by go_num, by
          have h4 := e3.out
          rw [← HY.out] at h4
          rw [h4]
          rfl⟩
        case measure => simp [intOf]; omega
      · have hk2 : Hid (k = blen x) := by
          have h5 := HY.out
          have h6 : ¬ k < blen x := by
            rw [lt_blen]
            intro h7
            have := Nat.div_pos h7 (Nat.two_pow_pos k)
            omega
          unfold Hid; omega
        obtain rfl : y = 0 := by omega
        go_wp2
        go_ret
        exact ⟨ret_int (by rw [hres.out, hk2.out]), rfl⟩
end Go.Proofs.YtaifjldpjkabjaaDoor
