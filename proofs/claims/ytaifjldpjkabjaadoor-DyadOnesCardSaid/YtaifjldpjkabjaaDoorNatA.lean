/- Contracts of package nat, part A: what only reads. -/
import Derived.Test.YtaifjldpjkabjaaDoorBits
namespace Go.Proofs.YtaifjldpjkabjaaDoor
open Go.RowKit Pl

/-- nat.May. -/
def mayN (xs : List Nat) : Bool := decide (xs.length = 0) || (decide (xs.length ≤ 64) && !decide (nth xs (xs.length - 1) = 0))

/-- nat.sign. -/
def sgnB (b : Bool) : Int := if b then -1 else 1
set_option maxHeartbeats 400000 in
theorem sign_any (b : Bool) (w : World) : Calls Tryd.prog 121 #[.bool b] w fun e w' => e = .returned (.int .i64 (sgnB b)) ∧ w = w' := by
  cases b <;> (go_enter Tryd.func121, Tryd.ntmps121; go_wp2; go_ret; exact ⟨rfl, rfl⟩)

set_option maxHeartbeats 400000 in
theorem may_any (A : Option Addr) (n c : Nat) (xs : List Nat) (w : World) (h : RdN .u64 w A n c xs) :
    Calls Tryd.prog 66 #[.slice A n c] w fun e w' => e = .returned (.bool (mayN xs)) ∧ w = w' := by
  obtain ⟨hlen, hcap, hmax, hat⟩ := h
  unfold maxLen at hmax
  by_cases h0 : n = 0
  · subst h0
    have hres : mayN xs = true := by simp [mayN, hlen]
    go_enter Tryd.func66, Tryd.ntmps66
    go_wp2
    go_ret
    exact ⟨ret_bool hres.symm, rfl⟩
  · obtain ⟨b, off, rfl, hb, hc⟩ := hat (by omega)
    have hcell := hc (n - 1) (by omega)
    have hz : ((n : Int) == 0) = false := by simp; omega
    clear hat
    subst hlen
    by_cases h1 : xs.length ≤ 64
    · have hi : ((xs.length : Int) - 1).toNat = xs.length - 1 := by omega
      go_enter Tryd.func66, Tryd.ntmps66
      go_wp2
      go_ret
      refine ⟨ret_bool ?_, rfl⟩
      have h0' : xs ≠ [] := by intro e; rw [e] at h0; exact h0 rfl
      rw [Bool.eq_iff_iff]
      simp [mayN, h0', h1, bne]
    · go_enter Tryd.func66, Tryd.ntmps66
      go_wp2
      go_ret
      refine ⟨ret_bool ?_, rfl⟩
      have h0' : xs ≠ [] := by intro e; rw [e] at h0; exact h0 rfl
      simp [mayN, h0', h1]

/-- One step of trim, seen from the end. -/
theorem trimL_step_zero {xs : List Nat} {m : Nat} (hm : m + 1 ≤ xs.length) (h : nth xs m = 0) : trimL (xs.take (m + 1)) = trimL (xs.take m) := by
  have : xs.take (m + 1) = xs.take m ++ [0] := by
    rw [List.take_succ_eq_append_getElem (by omega)]
    have h2 : xs[m]'(by omega) = 0 := by simpa [nth, List.getD_eq_getElem?_getD, show m < xs.length by omega] using h
    rw [h2]
  rw [this, trimL_snoc_zero]
theorem trimL_step_done {xs : List Nat} {m : Nat} (hm : m + 1 ≤ xs.length) (h : nth xs m ≠ 0) : (trimL (xs.take (m + 1))).length = m + 1 := by
  have hc : Cnl (xs.take (m + 1)) := by
    have : xs.take (m + 1) = xs.take m ++ [nth xs m] := by
      rw [List.take_succ_eq_append_getElem (by omega)]
      simp [nth, List.getD_eq_getElem?_getD, show m < xs.length by omega]
    unfold Cnl
    rw [this, List.getLast?_concat]
    simpa using h
  rw [trimL_of_can hc, List.length_take]
  omega

set_option maxHeartbeats 400000 in
theorem trim_any (A : Option Addr) (n c : Nat) (xs : List Nat) (w : World) (h : RdN .u64 w A n c xs) :
    Calls Tryd.prog 110 #[.slice A n c] w fun e w' => e = .returned (.slice A (trimL xs).length c) ∧ w = w' := by
  obtain ⟨hlen, hcap, hmax, hat⟩ := h
  unfold maxLen at hmax
  subst hlen
  go_enter Tryd.func110, Tryd.ntmps110
  go_wp2
  go_loop [0] (fun a => ∃ m : Nat, m ≤ xs.length ∧ a = .slice A m c ∧ Hid (trimL (xs.take m) = trimL xs)) (fun a => match a with | .slice _ m _ => m | _ => 0)
  case atStart => exact ⟨xs.length, Nat.le_refl _, rfl, by rw [List.take_length]; exact hide rfl⟩
  case round =>
    obtain ⟨m, hm, rfl, hT⟩ := hrel
    rcases Nat.eq_zero_or_pos m with rfl | hpos
    · go_wp2
      go_ret
      have h2 := hT.out
      rw [← h2]
      exact ⟨rfl, rfl⟩
    · obtain ⟨k, rfl⟩ : ∃ k, m = k + 1 := ⟨m - 1, by omega⟩
      obtain ⟨b, off, rfl, hb, hc⟩ := hat (by omega)
      have hcell := hc k (by omega)
      by_cases hk : nth xs k = 0
      · have e1 : ((nth xs k : Int) == 0) = true := by simp [hk]
        have e2 := hide (trimL_step_zero hm hk)
        clear hat
        go_wp2
        go_round
        case rel => exact ⟨k, by omega, by go_num, hide (e2.out.symm.trans hT.out)⟩
        case measure => simp
      · have e1 : ((nth xs k : Int) == 0) = false := by simp; omega
        have e2 := hide (trimL_step_done hm hk)
        clear hat
        go_wp2
        go_ret
        have h2 := e2.out
        rw [hT.out] at h2
        rw [h2]
        exact ⟨rfl, rfl⟩

theorem RdN.cellW {K : IntKind} {w wr : World} {b off n : Nat} {xs : List Nat} (hc : ∀ k, k < n → w.cell? ⟨b, off + k, none⟩ = some (.int K (nth xs k : Nat))) (hb : b < w.heap.size) (hw : Below w.heap.size w wr) (k : Nat) (hk : k < n) :
    wr.cell? ⟨b, off + k, none⟩ = some (.int K (nth xs k : Nat)) := (hw.cell (p := ⟨b, off + k, none⟩) hb).trans (hc k hk)

theorem cmpFrom_lt {xs ys : List Nat} {k : Nat} (h : nth xs k < nth ys k) : cmpFrom xs ys (k + 1) = -1 := by simp only [cmpFrom]; exact if_pos h
theorem cmpFrom_gt {xs ys : List Nat} {k : Nat} (h : nth ys k < nth xs k) : cmpFrom xs ys (k + 1) = 1 := by
  simp only [cmpFrom]
  have h' : ys.getD k 0 < xs.getD k 0 := h
  rw [if_neg (by omega), if_pos h']
theorem cmpFrom_eq {xs ys : List Nat} {k : Nat} (h : nth xs k = nth ys k) : cmpFrom xs ys (k + 1) = cmpFrom xs ys k := by
  simp only [cmpFrom]
  have h' : xs.getD k 0 = ys.getD k 0 := h
  rw [if_neg (by omega), if_neg (by omega)]

set_option maxHeartbeats 400000 in
theorem order_any (A : Option Addr) (n c : Nat) (xs : List Nat) (B : Option Addr) (m d : Nat) (ys : List Nat) (w : World) (h : RdN .u64 w A n c xs) (k : RdN .u64 w B m d ys) :
    Calls Tryd.prog 114 #[.slice A n c, .slice B m d] w fun e w' => e = .returned (.int .i64 (cmpL xs ys)) ∧ Below w.heap.size w w' := by
  obtain ⟨hlen, hcap, hmax, hat⟩ := h
  obtain ⟨klen, kcap, kmax, kat⟩ := k
  unfold maxLen at hmax kmax
  subst hlen klen
  by_cases hl : xs.length = ys.length
  · have hres : Hid (cmpL xs ys = cmpFrom xs ys xs.length) := by unfold cmpL; rw [if_neg (by omega), if_neg (by omega)]; exact hide rfl
    have el : ((xs.length : Int) == (ys.length : Int)) = true := by simp [hl]
    have el' : ((xs.length : Int) != (ys.length : Int)) = false := by simp [hl]
    have hl' : ys.length ≤ xs.length ∧ xs.length ≤ ys.length := by omega
    clear hl
    obtain ⟨hl1, hl2⟩ := hl'
    go_enter Tryd.func114, Tryd.ntmps114
    go_wp2
    go_loopw [5] (fun i wr => ∃ q : Nat, q ≤ xs.length ∧ i = .int .i64 ((q : Int) - 1) ∧ Hid (cmpFrom xs ys q = cmpL xs ys) ∧ Below w.heap.size w wr) (fun i _ => (intOf i + 1).toNat)
    case atStart => exact ⟨xs.length, Nat.le_refl _, rfl, hide hres.out.symm, Below.refl _ _⟩
    case round =>
      obtain ⟨q, hq, rfl, hT, hbw⟩ := hrel
      rcases Nat.eq_zero_or_pos q with rfl | hpos
      · go_wp2
        go_ret
        exact ⟨ret_int hT.out, hbw⟩
      · obtain ⟨j, rfl⟩ : ∃ j, q = j + 1 := ⟨q - 1, by omega⟩
        obtain ⟨b, off, rfl, hb, hc⟩ := hat (by omega)
        obtain ⟨b2, off2, rfl, hb2, hc2⟩ := kat (by omega)
        have hcell := RdN.cellW hc hb hbw j (by omega)
        have hcell2 := RdN.cellW hc2 hb2 hbw j (by omega)
        clear hat kat hc hc2
        have ej : (((j + 1 : Nat) : Int) - 1) = (j : Int) := by omega
        rw [ej]
        clear ej
        have i1 : (0 : Int) ≤ (j : Int) := by omega
        have i2 : (j : Int) < (xs.length : Int) := by omega
        have i3 : (j : Int) < (ys.length : Int) := by omega
        rcases Nat.lt_trichotomy (nth xs j) (nth ys j) with hlt | heq | hgt
        · have e1 : ((nth xs j : Int) != (nth ys j : Int)) = true := by rw [bne_iff_ne]; omega
          have e2 : decide (nth xs j < nth ys j) = true := by simp; omega
          have hT2 := hide ((cmpFrom_lt hlt).symm.trans hT.out)
          clear hT
          go_wp2_with fail
          go_quiet (fail)
          go_wp2_with fail
          go_quiet ((go_at_call 121; exact quiet2 (sign_any _ _)))
          go_wp2
          go_ret
          exact ⟨ret_int (Eq.trans rfl hT2.out), by repeat (first | assumption | refine below_drewN ?_ _)⟩
        · have e1 : ((nth xs j : Int) != (nth ys j : Int)) = false := by rw [heq]; simp
          have hT2 := hide ((cmpFrom_eq heq).symm.trans hT.out)
          clear hT heq
          go_wp2_with fail
          go_quiet (fail)
          go_wp2
          go_roundw
          case rel => exact ⟨j, by omega, by go_num, hT2, by repeat (first | assumption | refine below_drewN ?_ _)⟩
          case measure => simp [intOf]
        · have e1 : ((nth xs j : Int) != (nth ys j : Int)) = true := by rw [bne_iff_ne]; omega
          have e2 : decide (nth xs j < nth ys j) = false := by simp; omega
          have hT2 := hide ((cmpFrom_gt hgt).symm.trans hT.out)
          clear hT
          go_wp2_with fail
          go_quiet (fail)
          go_wp2_with fail
          go_quiet ((go_at_call 121; exact quiet2 (sign_any _ _)))
          go_wp2
          go_ret
          exact ⟨ret_int (Eq.trans rfl hT2.out), by repeat (first | assumption | refine below_drewN ?_ _)⟩
  · have el : ((xs.length : Int) != (ys.length : Int)) = true := by rw [bne_iff_ne]; omega
    by_cases hl2 : xs.length < ys.length
    · have hres : Hid (cmpL xs ys = -1) := by unfold cmpL; rw [if_pos hl2]; exact hide rfl
      go_enter Tryd.func114, Tryd.ntmps114
      go_wp2_with (go_at_call 121; refine (sign_any _ _).mono ?_; rintro e w' ⟨rfl, rfl⟩)
      go_ret
      exact ⟨ret_int (Eq.trans (by simp [sgnB, *]) hres.out.symm), Below.refl _ _⟩
    · have hres : Hid (cmpL xs ys = 1) := by unfold cmpL; rw [if_neg hl2, if_pos (by omega)]; exact hide rfl
      go_enter Tryd.func114, Tryd.ntmps114
      go_wp2_with (go_at_call 121; refine (sign_any _ _).mono ?_; rintro e w' ⟨rfl, rfl⟩)
      go_ret
      exact ⟨ret_int (Eq.trans (by simp [sgnB, *]) hres.out.symm), Below.refl _ _⟩
end Go.Proofs.YtaifjldpjkabjaaDoor
