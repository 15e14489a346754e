/- The inner functions of nat over values that read as naturals; small words about them. Contracts of package dyad, part I: Same, copied, Neg. -/
import Derived.Test.YtbpfnooloemieaaGreatDoorDyFx
import Derived.Test.YtbpfnooloemieaaGreatDoorNatDx
import Derived.Test.YtbpfnooloemieaaGreatDoorRfBx
namespace Go.Proofs.YtbpfnooloemieaaGreatDoor
open Go.RowKit Pl

theorem can_len {xs ys : List Nat} (hl : Lim BB xs) (kl : Lim BB ys) (cy : Cnl ys) (h : val BB ys ≤ val BB xs) : ys.length ≤ xs.length := by
  rw [← limbs_of BB_gt1 kl cy rfl, limbs_len_le BB_gt1]
  exact Nat.lt_of_le_of_lt h (val_lt hl)
theorem R64.zero {w : World} {u : Value} (h : R64 w u 0) : ∃ A c, u = .slice A 0 c := by
  obtain ⟨A, n, c, rfl, hr⟩ := h
  have hn : n = 0 := by rw [← hr.len]; rfl
  subst hn
  exact ⟨A, c, rfl⟩
theorem blen_add {X Y a : Nat} (h : blen X ≤ a) (k : blen Y ≤ a) : blen (X + Y) ≤ a + 1 := by
  rw [blen_le] at *
  rw [Nat.pow_succ]
  omega
theorem cmpN_lt (X Y : Nat) : X < Y ↔ cmpN X Y < 0 := by
  unfold cmpN
  repeat' split
  all_goals omega
theorem limb_len {X k : Nat} (h : blen X ≤ 64 * k) : (limbs BB X).length ≤ k := by
  rw [limbs_len_le BB_gt1, pow_BB]
  exact blen_le.1 h
theorem R64.limb {w : World} {u : Value} {X : Nat} (h : R64 w u X) : ∃ A n c, u = .slice A n c ∧ RdN .u64 w A n c (limbs BB X) ∧ (limbs BB X).length = n := by
  obtain ⟨A, n, c, hu, hr⟩ := h
  exact ⟨A, n, c, hu, hr, hr.len⟩
section
variable (u v : Value) (X Y : Nat) (w : World) (h : R64 w u X) (k : R64 w v Y) (hX : blen X ≤ 3000000) (hY : blen Y ≤ 3000000)
include h hX in
theorem leftI (j : Nat) (hj : j ≤ 1000000) : Calls Tryz.prog 108 #[u, .int .i64 (j : Int)] w fun e w' => (∃ z, e = .returned z ∧ R64 w' z (X * 2 ^ j)) ∧ Below w.heap.size w w' := by
  obtain ⟨A, n, c, rfl, hr, hn⟩ := h.limb
  have h1 := left_any A n c _ j w hr (limbs_lim BB_gt1 X) (by have := limb_len (show blen X ≤ 64 * 50000 by omega); omega) hj
  rw [limbs_val BB_gt1] at h1
  exact h1.mono fun e w' ⟨A', n', c', he, hr', hb⟩ => ⟨⟨_, he, _, _, _, rfl, hr'⟩, hb⟩
include h k hX hY in
theorem plusI : Calls Tryz.prog 127 #[u, v] w fun e w' => (∃ z, e = .returned z ∧ R64 w' z (X + Y)) ∧ Below w.heap.size w w' := by
  obtain ⟨A, n, c, rfl, hr, hn⟩ := h.limb
  obtain ⟨B, m, d, rfl, kr, km⟩ := k.limb
  have h1 := plus_any A n c _ B m d _ w hr kr (limbs_lim BB_gt1 X) (limbs_lim BB_gt1 Y) (by have := limb_len (show blen X ≤ 64 * 50000 by omega); omega) (by have := limb_len (show blen Y ≤ 64 * 50000 by omega); omega)
  rw [limbs_val BB_gt1, limbs_val BB_gt1] at h1
  exact h1.mono fun e w' ⟨z, he, hr', hb⟩ => ⟨⟨z, he, hr'⟩, hb⟩
include h k hX in
theorem minusI (hle : Y ≤ X) : Calls Tryz.prog 128 #[u, v] w fun e w' => (∃ z, e = .returned z ∧ R64 w' z (X - Y)) ∧ Below w.heap.size w w' := by
  obtain ⟨A, n, c, rfl, hr, hn⟩ := h.limb
  obtain ⟨B, m, d, rfl, kr, km⟩ := k.limb
  have hlen := can_len (limbs_lim BB_gt1 X) (limbs_lim BB_gt1 Y) (limbs_can BB_gt1 Y) (by rw [limbs_val BB_gt1, limbs_val BB_gt1]; exact hle)
  have h1 := minus_any A n c _ B m d _ w hr kr (limbs_lim BB_gt1 X) (limbs_lim BB_gt1 Y) (by have := limb_len (show blen X ≤ 64 * 50000 by omega); omega) (by omega) (by rw [limbs_val BB_gt1, limbs_val BB_gt1]; exact hle)
  rw [limbs_val BB_gt1, limbs_val BB_gt1] at h1
  exact h1.mono fun e w' ⟨z, he, hr', hb⟩ => ⟨⟨z, he, hr'⟩, hb⟩
include h hX in
theorem sizeI : Calls Tryz.prog 106 #[u] w fun e w' => e = .returned (.int .i64 (blen X : Nat)) ∧ w = w' := by
  obtain ⟨A, n, c, rfl, hr, hn⟩ := h.limb
  have h1 := size_any A n c _ w hr (limbs_lim BB_gt1 X) (by have := limb_len (show blen X ≤ 64 * 50000 by omega); omega)
  rw [sizeN_can (limbs_lim BB_gt1 X) (limbs_can BB_gt1 X), limbs_val BB_gt1] at h1
  exact h1
include h k in
theorem orderI : Calls Tryz.prog 107 #[u, v] w fun e w' => e = .returned (.int .i64 (cmpN X Y)) ∧ Below w.heap.size w w' := by
  obtain ⟨A, n, c, rfl, hr, hn⟩ := h.limb
  obtain ⟨B, m, d, rfl, kr, km⟩ := k.limb
  have h1 := order_any A n c _ B m d _ w hr kr
  rw [cmpL_limbs BB_gt1] at h1
  exact h1
end
section
variable (u v : Value) (X Y : Nat) (w : World) (h : R64 w u X) (k : R64 w v Y) (hX : X < BB ^ 64) (hY : Y < BB ^ 64)
end
theorem cmpN_lt0 {X Y : Nat} (h : X < Y) : cmpN X Y = -1 := by unfold cmpN; rw [if_pos h]
theorem cmpN_gt0 {X Y : Nat} (h : Y < X) : cmpN X Y = 1 := by unfold cmpN; rw [if_neg (by omega), if_pos h]
theorem blen_plus {X Y a : Nat} (h : blen X ≤ a) (k : blen Y ≤ a) : blen (X + Y) ≤ a + 1 := by
  rw [blen_le] at *
  rw [Nat.pow_succ]
  omega
end Go.Proofs.YtbpfnooloemieaaGreatDoor
namespace Go.Proofs.YtbpfnooloemieaaGreatDoor
open Go.RowKit Pl

theorem nth_ext {xs ys : List Nat} (hl : xs.length = ys.length) (h : ∀ k, k < xs.length → nth xs k = nth ys k) : xs = ys := by
  refine List.ext_getElem hl fun i h1 h2 => ?_
  have h3 := h i h1
  unfold nth at h3
  rw [List.getD_eq_getElem?_getD, List.getD_eq_getElem?_getD, List.getElem?_eq_getElem h1, List.getElem?_eq_getElem h2] at h3
  exact h3

set_option maxHeartbeats 1000000 in
theorem equal_any (A : Option Addr) (n c : Nat) (xs : List Nat) (B : Option Addr) (m d : Nat) (ys : List Nat) (w : World) (h : RdN .u64 w A n c xs) (k : RdN .u64 w B m d ys) :
    Calls Tryz.prog 78 #[.slice A n c, .slice B m d] w fun e w' => e = .returned (.bool (decide (xs = ys))) ∧ Below w.heap.size w w' := by
  obtain ⟨hlen, hcap, hmax, hat⟩ := h
  obtain ⟨klen, kcap, kmax, kat⟩ := k
  unfold maxLen at hmax kmax
  subst hlen klen
  by_cases hl : xs.length = ys.length
  · have el : ((xs.length : Int) != (ys.length : Int)) = false := by simp [hl]
    have HL := hide hl
    have hl1 : xs.length ≤ ys.length := by omega
    clear hl
    go_enter Tryz.func78, Tryz.ntmps78
    go_wp2
    go_loopw [13] (fun i wr => ∃ q : Nat, q ≤ xs.length ∧ i = .int .i64 (q : Int) ∧ Hid (∀ k, k < q → nth xs k = nth ys k) ∧ Below w.heap.size w wr) (fun i _ => xs.length - (intOf i).toNat)
    case atStart => exact ⟨0, Nat.zero_le _, rfl, fun k hk => absurd hk (by omega), Below.refl _ _⟩
    case round =>
      obtain ⟨q, hq, rfl, hT, hbw⟩ := hrel
      rcases Nat.lt_or_ge q xs.length with hlt | hge
      · obtain ⟨b, off, rfl, hb, hc⟩ := hat (by omega)
        obtain ⟨b2, off2, rfl, hb2, hc2⟩ := kat (by omega)
        have hcell := RdN.cellW hc hb hbw q hlt
        have hcell2 := RdN.cellW hc2 hb2 hbw q (by omega)
        have i1 : (0 : Int) ≤ (q : Int) := by omega
        have i2 : (q : Int) < (xs.length : Int) := by omega
        have i3 : (q : Int) < (ys.length : Int) := by omega
        clear hat kat hc hc2
        by_cases he : nth xs q = nth ys q
        · have e1 : ((nth xs q : Int) != (nth ys q : Int)) = false := by rw [he]; simp
          have hT2 : Hid (∀ k, k < q + 1 → nth xs k = nth ys k) := fun k hk => by
            rcases Nat.lt_or_ge k q with h1 | h1
            · exact hT.out k h1
            · rw [show k = q by omega]; exact he
          clear hT he
          go_wp2_with fail
          go_quiet (fail)
          have hb3 := below_drewN hbw nq
          go_wp2
          go_roundw
          case rel => exact ⟨q + 1, by omega, by go_num, hT2, hb3⟩
          case measure => simp [intOf]; omega
        · have e1 : ((nth xs q : Int) != (nth ys q : Int)) = true := by rw [bne_iff_ne]; omega
          have hne : Hid (decide (xs = ys) = false) := by
            unfold Hid
            rw [decide_eq_false_iff_not]
            intro e
            exact he (by rw [e])
          clear hT he
          go_wp2_with fail
          go_quiet (fail)
          have hb3 := below_drewN hbw nq
          go_wp2
          go_ret
          exact ⟨ret_bool hne.out.symm, hb3⟩
      · obtain rfl : q = xs.length := by omega
        have heq : Hid (decide (xs = ys) = true) := by
          unfold Hid
          rw [decide_eq_true_iff]
          exact nth_ext HL.out hT.out
        clear hat kat hT
        go_wp2
        go_ret
        exact ⟨ret_bool heq.out.symm, hbw⟩
  · have el : ((xs.length : Int) != (ys.length : Int)) = true := by rw [bne_iff_ne]; omega
    have hne : Hid (decide (xs = ys) = false) := by
      unfold Hid
      rw [decide_eq_false_iff_not]
      intro e
      exact hl (by rw [e])
    clear hl
    go_enter Tryz.func78, Tryz.ntmps78
    go_wp2
    go_ret
    exact ⟨ret_bool hne.out.symm, Below.refl _ _⟩

/-- Are two the same, as data? -/
def sameD (a b : Dy) : Bool := decide (a.neg = b.neg) && decide (a.e = b.e) && decide (a.m = b.m)
theorem sameD_iff {a b : Dy} : sameD a b = true ↔ a = b := by
  unfold sameD
  simp only [Bool.and_eq_true, decide_eq_true_eq]
  constructor
  · rintro ⟨⟨h1, h2⟩, h3⟩
    cases a; cases b
    simp only at h1 h2 h3
    rw [h1, h2, h3]
  · rintro rfl; exact ⟨⟨rfl, rfl⟩, rfl⟩
theorem sameD_self (a : Dy) : sameD a a = true := sameD_iff.2 rfl
set_option maxRecDepth 100000 in
set_option maxHeartbeats 1000000 in
theorem sameD_any (u v : Value) (a b : Dy) (w : World) (h : RdD w u a) (k : RdD w v b) :
    Calls Tryz.prog 39 #[u, v] w fun e w' => e = .returned (.bool (sameD a b)) ∧ Below w.heap.size w w' := by
  obtain ⟨A, n, c, rfl, hr, _, _, _⟩ := h
  obtain ⟨B, m, d, rfl, kr, _, _, _⟩ := k
  obtain ⟨an, am, ae⟩ := a
  obtain ⟨bn, bm, be⟩ := b
  simp only at hr kr ⊢
  obtain ⟨hA, hB, hb0⟩ := box_2 w [.bool an, .slice A n c, .int .i64 ae] [.bool bn, .slice B m d, .int .i64 be] 30 30
  have hr0 := hr.below hb0
  have kr0 := kr.below hb0
  have a0 := hA.cell 0 rfl
  have a1 := hA.cell 1 rfl
  have a2 := hA.cell 2 rfl
  have b0 := hB.cell 0 rfl
  have b1 := hB.cell 1 rfl
  have b2 := hB.cell 2 rfl
  by_cases h1 : an = bn
  · have d1 : (an == bn) = true := by rw [h1]; exact beq_self_eq_true bn
    by_cases h2 : ae = be
    · have d2 : (ae == be) = true := by rw [h2]; exact beq_self_eq_true be
      have hres : Hid (sameD ⟨an, am, ae⟩ ⟨bn, bm, be⟩ = decide (am = bm)) := by unfold Hid sameD; simp [h1, h2]
      clear h1 h2 hr kr
      go_enter Tryz.func39, Tryz.ntmps39
      go_upto_region 1 with fail
      generalize ((w.alloc (.cells #[.bool an, .slice A n c, .int .i64 ae] 30)).alloc (.cells #[.bool bn, .slice B m d, .int .i64 be] 30)) = W at *
      go_wp2_with fail
      refine (equal_any A n c am B m d bm _ hr0 kr0).mono ?_
      rintro e w1 ⟨rfl, hb1⟩
      go_wp2
      go_ret
      exact ⟨ret_bool hres.out.symm, below_then hb0 hb1⟩
    · have d2 : (ae == be) = false := beq_eq_false_iff_ne.2 h2
      have hres : Hid (sameD ⟨an, am, ae⟩ ⟨bn, bm, be⟩ = false) := by unfold Hid sameD; simp [h2]
      clear h1 h2 hr kr
      go_enter Tryz.func39, Tryz.ntmps39
      go_upto_region 1 with fail
      generalize ((w.alloc (.cells #[.bool an, .slice A n c, .int .i64 ae] 30)).alloc (.cells #[.bool bn, .slice B m d, .int .i64 be] 30)) = W at *
      go_wp2
      go_ret
      exact ⟨ret_bool hres.out.symm, hb0⟩
  · have d1 : (an == bn) = false := beq_eq_false_iff_ne.2 h1
    have hres : Hid (sameD ⟨an, am, ae⟩ ⟨bn, bm, be⟩ = false) := by unfold Hid sameD; simp [h1]
    clear h1 hr kr
    go_enter Tryz.func39, Tryz.ntmps39
    go_upto_region 1 with fail
    generalize ((w.alloc (.cells #[.bool an, .slice A n c, .int .i64 ae] 30)).alloc (.cells #[.bool bn, .slice B m d, .int .i64 be] 30)) = W at *
    go_wp2
    go_ret
    exact ⟨ret_bool hres.out.symm, hb0⟩

/-- A Dyad's three cells hold no limb. -/
theorem dy_no (a : Bool) (s : Value) (e : Int) (hs : ∃ A n c, s = .slice A n c) : ∀ x, Value.int .u64 x ∉ [.bool a, s, .int .i64 e] := by
  obtain ⟨A, n, c, rfl⟩ := hs
  intro x hx
  simp at hx

set_option maxRecDepth 100000 in
set_option maxHeartbeats 1000000 in
theorem copied_any (v : Value) (d : Dy) (w : World) (h : RdD w v d) (hn : d.m.length ≤ 1000000) :
    Calls Tryz.prog 126 #[v] w fun e w' => (∃ z, e = .returned z ∧ RdD w' z d) ∧ Below w.heap.size w w' := by
  obtain ⟨A, n, c, rfl, hr, hl, he1, he2⟩ := h
  obtain ⟨neg, m, e⟩ := d
  simp only at hr hl he1 he2 hn ⊢
  have hlen := hr.len
  obtain ⟨hA, hB, hb0⟩ := box_2 w [.bool neg, .slice A n c, .int .i64 e] [.bool false, .slice none 0 0, .int .i64 0] 30 30
  have hr0 := hr.below hb0
  have a0 := hA.cell 0 rfl
  have a1 := hA.cell 1 rfl
  have a2 := hA.cell 2 rfl
  go_enter Tryz.func126, Tryz.ntmps126
  go_upto_region 1 with fail
  generalize ((w.alloc (.cells #[.bool neg, .slice A n c, .int .i64 e] 30)).alloc (.cells #[.bool false, .slice none 0 0, .int .i64 0] 30)) = W at *
  go_wp2_with fail
  refine (clone_any A n c m _ hr0 (by omega)).mono ?_
  rintro e w1 ⟨v, rfl, hown, hb1⟩
  obtain ⟨A', c', rfl⟩ := own_slice hown
  have hrd := RdN.of_own hown
  have hA1 := hA.keep hb1
  have hB1 := hB.keep hb1
  have hb01 := below_then hb0 hb1
  clear a0 a1 a2 hr hr0 hown hA hB hb0 hb1
  have f1 := hA1.frozen 1
  have a1 := hA1.cell 1 rfl
  have hA2 := hA1.set 1 (.slice A' n c')
  have hB2 := hB1.far (show w.heap.size + 1 ≠ w.heap.size by omega) 1 (.slice A' n c')
  have hr2 := hrd.apart hA1 (dy_no _ _ _ ⟨_, _, _, rfl⟩) 1 (.slice A' n c')
  have hb2 : Below w.heap.size w (w1.setCell ⟨w.heap.size, 1, none⟩ (.slice A' n c')) := hb01.setCell (Nat.le_refl _) _
  go_upto_region 2 with fail
  clear hrd hA1 hB1 hb01 f1 a1
  generalize w1.setCell ⟨w.heap.size, 1, none⟩ (.slice A' n c') = W2 at *
  have a0 := hA2.cell 0 rfl
  have a1 := hA2.cell 1 rfl
  have a2 := hA2.cell 2 rfl
  have f0 := hB2.frozen 0
  have f1 := hB2.frozen 1
  have f2 := hB2.frozen 2
  have b0 := hB2.cell 0 rfl
  have b1 := hB2.cell 1 rfl
  have b2 := hB2.cell 2 rfl
  have hB3 := hB2.store3 (.bool neg) (.slice A' n c') (.int .i64 e)
  have hr3 := hr2.store3 hB2 (.bool neg) (.slice A' n c') (.int .i64 e) (dy_no _ _ _ ⟨_, _, _, rfl⟩) (dy_no _ _ _ ⟨_, _, _, rfl⟩)
  have hb3 := below_store3 hb2 (show w.heap.size ≤ w.heap.size + 1 by omega) (.bool neg) (.slice A' n c') (.int .i64 e)
  have q0 := hB3.cell 0 rfl
  have q1 := hB3.cell 1 rfl
  have q2 := hB3.cell 2 rfl
  have HF := hide (And.intro hr3 hb3)
  clear hr2 hA2 hB2 hB3 hr3 hb3 hb2
  go_wp2
  refine bodyPost_ret (v := .agg #[.bool neg, .slice A' n c', .int .i64 e]) (by simp [results, Tryz.results126, go_sem, q0, q1, q2]) rfl ⟨⟨_, rfl, _, _, _, rfl, HF.out.1, hl, he1, he2⟩, HF.out.2⟩

/-- dyad.Neg. -/
def negS (d : Dy) : Dy := if mayD d = true ∧ d.m.length ≠ 0 then ⟨!d.neg, d.m, d.e⟩ else d

set_option maxRecDepth 100000 in
set_option maxHeartbeats 1000000 in
theorem negD_any (v : Value) (d : Dy) (w : World) (h : RdD w v d) (hn : d.m.length ≤ 1000000) :
    Calls Tryz.prog 105 #[v] w fun e w' => (∃ z, e = .returned z ∧ RdD w' z (negS d)) ∧ Below w.heap.size w w' := by
  have hd := h
  obtain ⟨A, n, c, rfl, hr, hl, he1, he2⟩ := h
  obtain ⟨neg, m, e⟩ := d
  simp only at hr hl he1 he2 hn ⊢
  obtain ⟨hA, hB, hb0⟩ := box_2 w [.bool neg, .slice A n c, .int .i64 e] [.bool false, .slice none 0 0, .int .i64 0] 30 30
  have hd0 := hd.below hb0
  have a0 := hA.cell 0 rfl
  have a1 := hA.cell 1 rfl
  have a2 := hA.cell 2 rfl
  go_enter Tryz.func105, Tryz.ntmps105
  go_upto_region 1 with fail
  generalize ((w.alloc (.cells #[.bool neg, .slice A n c, .int .i64 e] 30)).alloc (.cells #[.bool false, .slice none 0 0, .int .i64 0] 30)) = W at *
  go_wp2_with fail
  refine (copied_any _ ⟨neg, m, e⟩ _ hd0 hn).mono ?_
  rintro e' w1 ⟨⟨z, rfl, hz⟩, hb1⟩
  obtain ⟨A', n', c', rfl, hr1, _, _, _⟩ := hz
  simp only at hr1 ⊢
  have hA1 := hA.keep hb1
  have hB1 := hB.keep hb1
  have hb01 := below_then hb0 hb1
  have hlen1 := hr1.len
  have hcap1 := hr1.cap
  have hmax1 := hr1.max
  unfold maxLen at hmax1
  clear a0 a1 a2 hr hd hd0 hA hB hb0 hb1
  have f0 := hA1.frozen 0
  have f1 := hA1.frozen 1
  have f2 := hA1.frozen 2
  have a0 := hA1.cell 0 rfl
  have a1 := hA1.cell 1 rfl
  have a2 := hA1.cell 2 rfl
  have hA2 := hA1.store3 (.bool neg) (.slice A' n' c') (.int .i64 e)
  have hB2 := hB1.far3 (show w.heap.size + 1 ≠ w.heap.size by omega) (.bool neg) (.slice A' n' c') (.int .i64 e)
  have hr2 := hr1.store3 hA1 (.bool neg) (.slice A' n' c') (.int .i64 e) (dy_no _ _ _ ⟨_, _, _, rfl⟩) (dy_no _ _ _ ⟨_, _, _, rfl⟩)
  have hb2 := below_store3 hb01 (Nat.le_refl w.heap.size) (.bool neg) (.slice A' n' c') (.int .i64 e)
  go_upto_region 2 with fail
  clear hr1 hA1 hB1 hb01 f0 f1 f2 a0 a1 a2
  generalize ((w1.setCell ⟨w.heap.size, 0, none⟩ (.bool neg)).setCell ⟨w.heap.size, 1, none⟩ (.slice A' n' c')).setCell ⟨w.heap.size, 2, none⟩ (.int .i64 e) = W2 at *
  have a0 := hA2.cell 0 rfl
  have a1 := hA2.cell 1 rfl
  have a2 := hA2.cell 2 rfl
  have hd2 : RdD W2 (.agg #[.bool neg, .slice A' n' c', .int .i64 e]) ⟨neg, m, e⟩ := ⟨_, _, _, rfl, hr2, hl, he1, he2⟩
  go_wp2_with fail
  refine (mayD_any _ _ _ hd2).mono ?_
  rintro e' w3 ⟨rfl, hb3⟩
  have hA3 := hA2.keep hb3
  have hB3 := hB2.keep hb3
  have hr3 := hr2.below hb3
  have hb03 := below_then hb2 hb3
  clear a0 a1 a2 hr2 hd2 hA2 hB2 hb3 hb2
  have fin : ∀ (g : Bool) (w5 : World), Box w5 w.heap.size [.bool g, .slice A' n' c', .int .i64 e] 30 → Box w5 (w.heap.size + 1) [.bool false, .slice none 0 0, .int .i64 0] 30 → RdN .u64 w5 A' n' c' m → Below w.heap.size w w5 →
      Box (((w5.setCell ⟨w.heap.size + 1, 0, none⟩ (.bool g)).setCell ⟨w.heap.size + 1, 1, none⟩ (.slice A' n' c')).setCell ⟨w.heap.size + 1, 2, none⟩ (.int .i64 e)) (w.heap.size + 1) [.bool g, .slice A' n' c', .int .i64 e] 30 ∧
      RdN .u64 (((w5.setCell ⟨w.heap.size + 1, 0, none⟩ (.bool g)).setCell ⟨w.heap.size + 1, 1, none⟩ (.slice A' n' c')).setCell ⟨w.heap.size + 1, 2, none⟩ (.int .i64 e)) A' n' c' m ∧
      Below w.heap.size w (((w5.setCell ⟨w.heap.size + 1, 0, none⟩ (.bool g)).setCell ⟨w.heap.size + 1, 1, none⟩ (.slice A' n' c')).setCell ⟨w.heap.size + 1, 2, none⟩ (.int .i64 e)) := by
    intro g w5 _ h2 h3 h4
    exact ⟨h2.store3 _ _ _, h3.store3 h2 _ _ _ (dy_no _ _ _ ⟨_, _, _, rfl⟩) (dy_no _ _ _ ⟨_, _, _, rfl⟩), below_store3 h4 (by omega) _ _ _⟩
  have FIN := hide fin
  clear fin
  by_cases hc : mayD ⟨neg, m, e⟩ = true ∧ m.length ≠ 0
  · have hp : 0 < n' := by have := hc.2; omega
    have hres : Hid (negS ⟨neg, m, e⟩ = ⟨!neg, m, e⟩) := by unfold Hid negS; rw [if_pos hc]
    rw [hc.1]
    have f0 := hA3.frozen 0
    have a0 := hA3.cell 0 rfl
    have a1 := hA3.cell 1 rfl
    have a2 := hA3.cell 2 rfl
    have hA4 := hA3.set 0 (.bool (!neg))
    have hB4 := hB3.far (show w.heap.size + 1 ≠ w.heap.size by omega) 0 (.bool (!neg))
    have hr4 := hr3.apart hA3 (dy_no _ _ _ ⟨_, _, _, rfl⟩) 0 (.bool (!neg))
    have hb4 : Below w.heap.size w (w3.setCell ⟨w.heap.size, 0, none⟩ (.bool (!neg))) := hb03.setCell (Nat.le_refl _) _
    clear hc
    go_upto_region 4 with fail
    clear hr3 hA3 hB3 hb03 f0 a0 a1 a2
    generalize w3.setCell ⟨w.heap.size, 0, none⟩ (.bool (!neg)) = W4 at *
    obtain ⟨k1, k2, k3⟩ := FIN.out (!neg) W4 hA4 hB4 hr4 hb4
    have q0 := k1.cell 0 rfl
    have q1 := k1.cell 1 rfl
    have q2 := k1.cell 2 rfl
    have HF := hide (And.intro k2 k3)
    have a0 := hA4.cell 0 rfl
    have a1 := hA4.cell 1 rfl
    have a2 := hA4.cell 2 rfl
    have f0 := hB4.frozen 0
    have f1 := hB4.frozen 1
    have f2 := hB4.frozen 2
    have b0 := hB4.cell 0 rfl
    have b1 := hB4.cell 1 rfl
    have b2 := hB4.cell 2 rfl
    clear k1 k2 k3 hA4 hB4 hr4 hb4
    go_wp2
    refine bodyPost_ret (v := .agg #[.bool (!neg), .slice A' n' c', .int .i64 e]) (by simp [results, Tryz.results105, go_sem, q0, q1, q2]) rfl ⟨⟨_, rfl, ?_⟩, HF.out.2⟩
    rw [hres.out]
    exact ⟨_, _, _, rfl, HF.out.1, hl, he1, he2⟩
  · have hres : Hid (negS ⟨neg, m, e⟩ = ⟨neg, m, e⟩) := by unfold Hid negS; rw [if_neg hc]
    obtain ⟨k1, k2, k3⟩ := FIN.out neg w3 hA3 hB3 hr3 hb03
    have q0 := k1.cell 0 rfl
    have q1 := k1.cell 1 rfl
    have q2 := k1.cell 2 rfl
    have HF := hide (And.intro k2 k3)
    have a0 := hA3.cell 0 rfl
    have a1 := hA3.cell 1 rfl
    have a2 := hA3.cell 2 rfl
    have f0 := hB3.frozen 0
    have f1 := hB3.frozen 1
    have f2 := hB3.frozen 2
    have b0 := hB3.cell 0 rfl
    have b1 := hB3.cell 1 rfl
    have b2 := hB3.cell 2 rfl
    clear k1 k2 k3 hA3 hB3 hr3 hb03
    by_cases hm : mayD ⟨neg, m, e⟩ = true
    · have h0 : n' = 0 := by
        have : ¬ m.length ≠ 0 := fun h => hc ⟨hm, h⟩
        omega
      rw [hm]
      clear hc hm
      subst h0
      go_wp2
      refine bodyPost_ret (v := .agg #[.bool neg, .slice A' 0 c', .int .i64 e]) (by simp [results, Tryz.results105, go_sem, q0, q1, q2]) rfl ⟨⟨_, rfl, ?_⟩, HF.out.2⟩
      rw [hres.out]
      exact ⟨_, _, _, rfl, HF.out.1, hl, he1, he2⟩
    · have hm2 : mayD ⟨neg, m, e⟩ = false := by simpa using hm
      rw [hm2]
      clear hc hm
      go_wp2
      refine bodyPost_ret (v := .agg #[.bool neg, .slice A' n' c', .int .i64 e]) (by simp [results, Tryz.results105, go_sem, q0, q1, q2]) rfl ⟨⟨_, rfl, ?_⟩, HF.out.2⟩
      rw [hres.out]
      exact ⟨_, _, _, rfl, HF.out.1, hl, he1, he2⟩
end Go.Proofs.YtbpfnooloemieaaGreatDoor
