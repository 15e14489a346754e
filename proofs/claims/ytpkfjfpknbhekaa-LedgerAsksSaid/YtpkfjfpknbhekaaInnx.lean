/- The inner functions of nat over values that read as naturals; small words about them. Contracts of package dyad, part I: Same, copied, Neg. -/
import Derived.Test.YtpkfjfpknbhekaaDyFx
import Derived.Lib.LazyBuf
import Derived.Test.YtpkfjfpknbhekaaRfBx
namespace Go.Proofs.Ytpkfjfpknbhekaa
open Go.RowKit Pl

theorem R64.zero {w : World} {u : Value} (h : R64 w u 0) : ∃ A c, u = .slice A 0 c := by
  obtain ⟨A, n, c, rfl, hr⟩ := h
  have hn : n = 0 := by rw [← hr.len]; rfl
  subst hn
  exact ⟨A, c, rfl⟩
section
variable (u v : Value) (X Y : Nat) (w : World) (h : R64 w u X) (k : R64 w v Y) (hX : blen X ≤ 3000000) (hY : blen Y ≤ 3000000)
end
section
variable (u v : Value) (X Y : Nat) (w : World) (h : R64 w u X) (k : R64 w v Y) (hX : X < BB ^ 64) (hY : Y < BB ^ 64)
end
theorem cmpN_lt0 {X Y : Nat} (h : X < Y) : cmpN X Y = -1 := by unfold cmpN; rw [if_pos h]
theorem cmpN_gt0 {X Y : Nat} (h : Y < X) : cmpN X Y = 1 := by unfold cmpN; rw [if_neg (by omega), if_pos h]
end Go.Proofs.Ytpkfjfpknbhekaa
namespace Go.Proofs.Ytpkfjfpknbhekaa
open Go.RowKit Pl

theorem nth_ext {xs ys : List Nat} (hl : xs.length = ys.length) (h : ∀ k, k < xs.length → nth xs k = nth ys k) : xs = ys := by
  refine List.ext_getElem hl fun i h1 h2 => ?_
  have h3 := h i h1
  unfold nth at h3
  rw [List.getD_eq_getElem?_getD, List.getD_eq_getElem?_getD, List.getElem?_eq_getElem h1, List.getElem?_eq_getElem h2] at h3
  exact h3

set_option maxHeartbeats 1000000 in
theorem equal_any (A : Option Addr) (n c : Nat) (xs : List Nat) (B : Option Addr) (m d : Nat) (ys : List Nat) (w : World) (h : RdN .u64 w A n c xs) (k : RdN .u64 w B m d ys) :
    Calls Try.prog 86 #[.slice A n c, .slice B m d] w fun e w' => e = .returned (.bool (decide (xs = ys))) ∧ Below w.heap.size w w' := by
  obtain ⟨hlen, hcap, hmax, hat⟩ := h
  obtain ⟨klen, kcap, kmax, kat⟩ := k
  unfold maxLen at hmax kmax
  subst hlen klen
  by_cases hl : xs.length = ys.length
  · have el : ((xs.length : Int) != (ys.length : Int)) = false := by simp [hl]
    have HL := hide hl
    have hl1 : xs.length ≤ ys.length := by omega
    clear hl
    go_enter Try.func86, Try.ntmps86
    go_wp2
    go_loopw [13] (fun i wr => ∃ q : Nat, q ≤ xs.length ∧ i = .int .i64 (q : Int) ∧ Hid (∀ k, k < q → nth xs k = nth ys k) ∧ Below w.heap.size w wr) (fun i _ => xs.length - (intOf i).toNat)
    case atStart => exact ⟨0, Nat.zero_le _, rfl, fun k hk => absurd hk (by omega), Below.refl _ _⟩
    case round =>
      obtain ⟨q, hq, rfl, hT, hbw⟩ := hrel
      rcases Nat.lt_or_ge q xs.length with hlt | hge
      · obtain ⟨b, off, rfl, hb, hc⟩ := hat (by omega)
        obtain ⟨b2, off2, rfl, hb2, hc2⟩ := kat (by omega)
        have hcell := RdN.cellW hc hb hbw q hlt
        have hcell2 := RdN.cellW hc2 hb2 hbw q (by omega)
        have i1 : (0 : Int) ≤ (q : Int) := by omega
        have i2 : (q : Int) < (xs.length : Int) := by omega
        have i3 : (q : Int) < (ys.length : Int) := by omega
        clear hat kat hc hc2
        by_cases he : nth xs q = nth ys q
        · have e1 : ((nth xs q : Int) != (nth ys q : Int)) = false := by rw [he]; simp
          have hT2 : Hid (∀ k, k < q + 1 → nth xs k = nth ys k) := fun k hk => by
            rcases Nat.lt_or_ge k q with h1 | h1
            · exact hT.out k h1
            · rw [show k = q by omega]; exact he
          clear hT he
          go_wp2_with fail
          go_quiet (fail)
          have hb3 := below_drewN hbw nq
          go_wp2
          go_roundw
          case rel => exact ⟨q + 1, by omega, by go_num, hT2, hb3⟩
          case measure => simp [intOf]; omega
        · have e1 : ((nth xs q : Int) != (nth ys q : Int)) = true := by rw [bne_iff_ne]; omega
          have hne : Hid (decide (xs = ys) = false) := by
            unfold Hid
            rw [decide_eq_false_iff_not]
            intro e
            exact he (by rw [e])
          clear hT he
          go_wp2_with fail
          go_quiet (fail)
          have hb3 := below_drewN hbw nq
          go_wp2
          go_ret
          exact ⟨ret_bool hne.out.symm, hb3⟩
      · obtain rfl : q = xs.length := by omega
        have heq : Hid (decide (xs = ys) = true) := by
          unfold Hid
          rw [decide_eq_true_iff]
          exact nth_ext HL.out hT.out
        clear hat kat hT
        go_wp2
        go_ret
        exact ⟨ret_bool heq.out.symm, hbw⟩
  · have el : ((xs.length : Int) != (ys.length : Int)) = true := by rw [bne_iff_ne]; omega
    have hne : Hid (decide (xs = ys) = false) := by
      unfold Hid
      rw [decide_eq_false_iff_not]
      intro e
      exact hl (by rw [e])
    clear hl
    go_enter Try.func86, Try.ntmps86
    go_wp2
    go_ret
    exact ⟨ret_bool hne.out.symm, Below.refl _ _⟩

/-- Are two the same, as data? -/
def sameD (a b : Dy) : Bool := decide (a.neg = b.neg) && decide (a.e = b.e) && decide (a.m = b.m)
theorem sameD_iff {a b : Dy} : sameD a b = true ↔ a = b := by
  unfold sameD
  simp only [Bool.and_eq_true, decide_eq_true_eq]
  constructor
  · rintro ⟨⟨h1, h2⟩, h3⟩
    cases a; cases b
    simp only at h1 h2 h3
    rw [h1, h2, h3]
  · rintro rfl; exact ⟨⟨rfl, rfl⟩, rfl⟩
set_option maxRecDepth 100000 in
set_option maxHeartbeats 1000000 in
theorem sameD_any (u v : Value) (a b : Dy) (w : World) (h : RdD w u a) (k : RdD w v b) :
    Calls Try.prog 71 #[u, v] w fun e w' => e = .returned (.bool (sameD a b)) ∧ Below w.heap.size w w' := by
  obtain ⟨A, n, c, rfl, hr, _, _, _⟩ := h
  obtain ⟨B, m, d, rfl, kr, _, _, _⟩ := k
  obtain ⟨an, am, ae⟩ := a
  obtain ⟨bn, bm, be⟩ := b
  simp only at hr kr ⊢
  obtain ⟨hA, hB, hb0⟩ := box_2 w [.bool an, .slice A n c, .int .i64 ae] [.bool bn, .slice B m d, .int .i64 be] 24 24
  have hr0 := hr.below hb0
  have kr0 := kr.below hb0
  have a0 := hA.cell 0 rfl
  have a1 := hA.cell 1 rfl
  have a2 := hA.cell 2 rfl
  have b0 := hB.cell 0 rfl
  have b1 := hB.cell 1 rfl
  have b2 := hB.cell 2 rfl
  by_cases h1 : an = bn
  · have d1 : (an == bn) = true := by rw [h1]; exact beq_self_eq_true bn
    by_cases h2 : ae = be
    · have d2 : (ae == be) = true := by rw [h2]; exact beq_self_eq_true be
      have hres : Hid (sameD ⟨an, am, ae⟩ ⟨bn, bm, be⟩ = decide (am = bm)) := by unfold Hid sameD; simp [h1, h2]
      clear h1 h2 hr kr
      go_enter Try.func71, Try.ntmps71
      go_upto_region 1 with fail
      generalize ((w.alloc (.cells #[.bool an, .slice A n c, .int .i64 ae] 24)).alloc (.cells #[.bool bn, .slice B m d, .int .i64 be] 24)) = W at *
      go_wp2_with fail
      refine (equal_any A n c am B m d bm _ hr0 kr0).mono ?_
      rintro e w1 ⟨rfl, hb1⟩
      go_wp2
      go_ret
      exact ⟨ret_bool hres.out.symm, below_then hb0 hb1⟩
    · have d2 : (ae == be) = false := beq_eq_false_iff_ne.2 h2
      have hres : Hid (sameD ⟨an, am, ae⟩ ⟨bn, bm, be⟩ = false) := by unfold Hid sameD; simp [h2]
      clear h1 h2 hr kr
      go_enter Try.func71, Try.ntmps71
      go_upto_region 1 with fail
      generalize ((w.alloc (.cells #[.bool an, .slice A n c, .int .i64 ae] 24)).alloc (.cells #[.bool bn, .slice B m d, .int .i64 be] 24)) = W at *
      go_wp2
      go_ret
      exact ⟨ret_bool hres.out.symm, hb0⟩
  · have d1 : (an == bn) = false := beq_eq_false_iff_ne.2 h1
    have hres : Hid (sameD ⟨an, am, ae⟩ ⟨bn, bm, be⟩ = false) := by unfold Hid sameD; simp [h1]
    clear h1 hr kr
    go_enter Try.func71, Try.ntmps71
    go_upto_region 1 with fail
    generalize ((w.alloc (.cells #[.bool an, .slice A n c, .int .i64 ae] 24)).alloc (.cells #[.bool bn, .slice B m d, .int .i64 be] 24)) = W at *
    go_wp2
    go_ret
    exact ⟨ret_bool hres.out.symm, hb0⟩

end Go.Proofs.Ytpkfjfpknbhekaa
