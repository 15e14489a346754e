/- Contracts of the document's answer sluicewayref1, part B: May, MayDyad, Sign. -/
import Derived.Test.YtpkfjfpknbhekaaKitBx
import Derived.Test.YtpkfjfpknbhekaaDyFx
namespace Go.Proofs.Ytpkfjfpknbhekaa
open Go.RowKit Pl
attribute [local go_sem ↓] Go.wp_at_zero Go.wp_at_succ

theorem mayN_nil : mayN [] = true := rfl
set_option maxHeartbeats 400000 in
theorem rmay_any (A : Option Addr) (n c : Nat) (xs : List Nat) (w : World) (h : RdN .u64 w A n c xs) :
    Calls Try.prog 73 #[.slice A n c] w fun e w' => e = .returned (.bool (mayN xs)) ∧ w = w' := by
  obtain ⟨hlen, hcap, hmax, hat⟩ := h
  unfold maxLen at hmax
  by_cases h0 : n = 0
  · subst h0
    have hres : Hid (mayN xs = true) := by unfold Hid; simp [mayN, hlen]
    go_enter Try.func73, Try.ntmps73
    go_wp2
    go_ret
    exact ⟨ret_bool hres.out.symm, rfl⟩
  · obtain ⟨b, off, rfl, hb, hc⟩ := hat (by omega)
    have hcell := hc (n - 1) (by omega)
    have hz : ((n : Int) == 0) = false := beq_eq_false_iff_ne.2 (by omega)
    have hi : ((n : Int) - 1).toNat = n - 1 := by omega
    have hp : 1 ≤ n := by omega
    clear hat
    subst hlen
    by_cases h1 : xs.length ≤ 64
    · have hres : Hid (mayN xs = (nth xs (xs.length - 1) != 0)) := by unfold Hid; simp [mayN, h0, h1, bne]; rfl
      have d1 : decide ((xs.length : Int) ≤ 64) = true := by simp; omega
      by_cases h2 : nth xs (xs.length - 1) = 0
      · have e2 : ((nth xs (xs.length - 1) : Int) != 0) = false := by simp [h2]
        have hr2 : Hid (mayN xs = false) := by unfold Hid; rw [hres.out, h2]; rfl
        clear h2 h1 h0
        go_enter Try.func73, Try.ntmps73
        go_wp2
        go_ret
        exact ⟨ret_bool hr2.out.symm, rfl⟩
      · have e2 : ((nth xs (xs.length - 1) : Int) != 0) = true := by rw [bne_iff_ne]; omega
        have hr2 : Hid (mayN xs = true) := by unfold Hid; rw [hres.out]; simpa using h2
        clear h2 h1 h0
        go_enter Try.func73, Try.ntmps73
        go_wp2
        go_ret
        exact ⟨ret_bool hr2.out.symm, rfl⟩
    · have hres : Hid (mayN xs = false) := by unfold Hid; simp [mayN, h0, h1]
      have d1 : decide ((xs.length : Int) ≤ 64) = false := by simp; omega
      clear h1 h0
      go_enter Try.func73, Try.ntmps73
      go_wp2
      go_ret
      exact ⟨ret_bool hres.out.symm, rfl⟩

set_option maxRecDepth 100000 in
set_option maxHeartbeats 1000000 in
theorem rmayD_any (v : Value) (d : Dy) (w : World) (h : RdD w v d) :
    Calls Try.prog 19 #[v] w fun e w' => e = .returned (.bool (mayD d)) ∧ Below w.heap.size w w' := by
  obtain ⟨A, n, c, rfl, hr, hl, he1, he2⟩ := h
  obtain ⟨neg, m, e⟩ := d
  simp only at hr hl he1 he2 ⊢
  have hlen := hr.len
  obtain ⟨hA, hb0⟩ := box1 w 24 [.bool neg, .slice A n c, .int .i64 e]
  have hr1 := hr.below hb0
  have c0 := hA.2 0 _ rfl
  have c1 := hA.2 1 _ rfl
  have c2 := hA.2 2 _ rfl
  by_cases hN : mayN m = true
  · by_cases g1 : -1048576 ≤ e
    · have d1 : decide (e < -1048576) = false := by simp; omega
      by_cases g2 : e ≤ 1048576
      · have d2 : decide (1048576 < e) = false := by simp; omega
        by_cases h0 : n = 0
        · subst h0
          have hm : m = [] := List.length_eq_zero_iff.1 hlen
          subst hm
          have hres : Hid (mayD ⟨neg, [], e⟩ = (!neg && decide (e = 0))) := by unfold Hid mayD; simp
          cases neg
          · by_cases hez : e = 0
            · have e1 : (e == 0) = true := by simp [hez]
              have hr2 : Hid (mayD ⟨false, [], e⟩ = true) := by unfold Hid; rw [hres.out, hez]; rfl
              clear hez hres
              go_enter Try.func19, Try.ntmps19
              go_wp2_with (go_at_call 73; refine (rmay_any _ _ _ _ _ hr1).mono ?_; rw [mayN_nil]; rintro e w' ⟨rfl, rfl⟩)
              go_ret
              exact ⟨ret_bool hr2.out.symm, hb0⟩
            · have e1 : (e == 0) = false := beq_eq_false_iff_ne.2 hez
              have hr2 : Hid (mayD ⟨false, [], e⟩ = false) := by unfold Hid; rw [hres.out]; simp [hez]
              clear hez hres
              go_enter Try.func19, Try.ntmps19
              go_wp2_with (go_at_call 73; refine (rmay_any _ _ _ _ _ hr1).mono ?_; rw [mayN_nil]; rintro e w' ⟨rfl, rfl⟩)
              go_ret
              exact ⟨ret_bool hr2.out.symm, hb0⟩
          · have hr2 : Hid (mayD ⟨true, [], e⟩ = false) := by unfold Hid; rw [hres.out]; rfl
            clear hres
            go_enter Try.func19, Try.ntmps19
            go_wp2_with (go_at_call 73; refine (rmay_any _ _ _ _ _ hr1).mono ?_; rw [mayN_nil]; rintro e w' ⟨rfl, rfl⟩)
            go_ret
            exact ⟨ret_bool hr2.out.symm, hb0⟩
        · have e0 : ((n : Int) == 0) = false := beq_eq_false_iff_ne.2 (by omega)
          obtain ⟨b, off, rfl, hb, hc⟩ := hr.at_ (by omega)
          have hcell := (hb0.cell (p := ⟨b, off + 0, none⟩) hb).trans (hc 0 (by omega))
          rw [Nat.add_zero] at hcell
          have hx : nth m 0 < BB := hl.getD BB_pos 0
          have hn0 : (0 : Int) < (n : Int) := by omega
          have hres : Hid (mayD ⟨neg, m, e⟩ = decide (nth m 0 % 2 = 1)) := by unfold Hid mayD; simp [hN, hlen, h0, g1, g2]
          have hand : bits .and .u64 (nth m 0 : Int) 1 = ((nth m 0 % 2 : Nat) : Int) := and_one _ hx
          clear h0
          by_cases ho : nth m 0 % 2 = 1
          · have hand2 : bits .and .u64 (nth m 0 : Int) 1 = 1 := by rw [hand, ho]; rfl
            have hr2 : Hid (mayD ⟨neg, m, e⟩ = true) := by unfold Hid; rw [hres.out]; simpa using ho
            clear hand ho hres
            go_enter Try.func19, Try.ntmps19
            go_wp2_with (go_at_call 73; refine (rmay_any _ _ _ _ _ hr1).mono ?_; rw [hN]; rintro e w' ⟨rfl, rfl⟩)
            go_ret
            exact ⟨ret_bool hr2.out.symm, hb0⟩
          · have hand2 : bits .and .u64 (nth m 0 : Int) 1 = 0 := by rw [hand, show nth m 0 % 2 = 0 by omega]; rfl
            have hr2 : Hid (mayD ⟨neg, m, e⟩ = false) := by unfold Hid; rw [hres.out]; simpa using ho
            clear hand ho hres
            go_enter Try.func19, Try.ntmps19
            go_wp2_with (go_at_call 73; refine (rmay_any _ _ _ _ _ hr1).mono ?_; rw [hN]; rintro e w' ⟨rfl, rfl⟩)
            go_ret
            exact ⟨ret_bool hr2.out.symm, hb0⟩
      · have d2 : decide (1048576 < e) = true := by simp; omega
        have hr2 : Hid (mayD ⟨neg, m, e⟩ = false) := by unfold Hid mayD; split <;> simp <;> omega
        clear g2
        go_enter Try.func19, Try.ntmps19
        go_wp2_with (go_at_call 73; refine (rmay_any _ _ _ _ _ hr1).mono ?_; rw [hN]; rintro e w' ⟨rfl, rfl⟩)
        go_ret
        exact ⟨ret_bool hr2.out.symm, hb0⟩
    · have d1 : decide (e < -1048576) = true := by simp; omega
      have hr2 : Hid (mayD ⟨neg, m, e⟩ = false) := by unfold Hid mayD; split <;> simp <;> omega
      clear g1
      go_enter Try.func19, Try.ntmps19
      go_wp2_with (go_at_call 73; refine (rmay_any _ _ _ _ _ hr1).mono ?_; rw [hN]; rintro e w' ⟨rfl, rfl⟩)
      go_ret
      exact ⟨ret_bool hr2.out.symm, hb0⟩
  · have hN' : mayN m = false := by simpa using hN
    have hm0 : ¬ m.length = 0 := by intro h0; rw [List.length_eq_zero_iff.1 h0] at hN'; cases hN'
    have hr2 : Hid (mayD ⟨neg, m, e⟩ = false) := by unfold Hid mayD; simp [hN', hm0]
    clear hN hm0
    go_enter Try.func19, Try.ntmps19
    go_wp2_with (go_at_call 73; refine (rmay_any _ _ _ _ _ hr1).mono ?_; rw [hN']; rintro e w' ⟨rfl, rfl⟩)
    go_ret
    exact ⟨ret_bool hr2.out.symm, hb0⟩

set_option maxRecDepth 100000 in
set_option maxHeartbeats 1000000 in
theorem rsignD_any (v : Value) (d : Dy) (w : World) (h : RdD w v d) :
    Calls Try.prog 90 #[v] w fun e w' => e = .returned (.int .i64 (signD d)) ∧ Below w.heap.size w w' := by
  have hd := h
  obtain ⟨A, n, c, rfl, hr, hl, he1, he2⟩ := h
  obtain ⟨neg, m, e⟩ := d
  simp only at hr hl he1 he2 ⊢
  have hlen := hr.len
  have hd1 := hd.below ((Below.refl w.heap.size w).alloc (Nat.le_refl _) (.cells #[.bool neg, .slice A n c, .int .i64 e] 24))
  by_cases hM : mayD ⟨neg, m, e⟩ = true
  · by_cases h0 : n = 0
    · have e0 : ((n : Int) == 0) = true := by simp [h0]
      have hres : Hid (signD ⟨neg, m, e⟩ = 0) := by unfold Hid signD; simp [hM, hlen, h0]
      clear h0
      go_enter Try.func90, Try.ntmps90
      go_wp2_with (go_at_call 19; refine (rmayD_any _ _ _ hd1).mono ?_; rw [hM]; rintro e w2 ⟨rfl, hb2⟩; obtain ⟨hcc, hff⟩ := bcell hb2)
      go_ret
      exact ⟨ret_int hres.out.symm, below_box hb2⟩
    · have e0 : ((n : Int) == 0) = false := beq_eq_false_iff_ne.2 (by omega)
      have hres : Hid (signD ⟨neg, m, e⟩ = if neg then -1 else 1) := by unfold Hid signD; simp [hM, hlen, h0]
      clear h0
      cases neg
      · go_enter Try.func90, Try.ntmps90
        go_wp2_with (go_at_call 19; refine (rmayD_any _ _ _ hd1).mono ?_; rw [hM]; rintro e w2 ⟨rfl, hb2⟩; obtain ⟨hcc, hff⟩ := bcell hb2)
        go_ret
        exact ⟨ret_int hres.out.symm, below_box hb2⟩
      · go_enter Try.func90, Try.ntmps90
        go_wp2_with (go_at_call 19; refine (rmayD_any _ _ _ hd1).mono ?_; rw [hM]; rintro e w2 ⟨rfl, hb2⟩; obtain ⟨hcc, hff⟩ := bcell hb2)
        go_ret
        exact ⟨ret_int hres.out.symm, below_box hb2⟩
  · have hM' : mayD ⟨neg, m, e⟩ = false := by simpa using hM
    have hres : Hid (signD ⟨neg, m, e⟩ = 0) := by unfold Hid signD; simp [hM']
    clear hM
    go_enter Try.func90, Try.ntmps90
    go_wp2_with (go_at_call 19; refine (rmayD_any _ _ _ hd1).mono ?_; rw [hM']; rintro e w2 ⟨rfl, hb2⟩; obtain ⟨hcc, hff⟩ := bcell hb2)
    go_ret
    exact ⟨ret_int hres.out.symm, below_box hb2⟩
end Go.Proofs.Ytpkfjfpknbhekaa
