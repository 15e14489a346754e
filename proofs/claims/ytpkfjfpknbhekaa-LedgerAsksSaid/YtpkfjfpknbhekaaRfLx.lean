/- Contracts of the document's answer sluicewayref1, part L: SameDyad, NegDyad, Small, great. -/
import Derived.Test.YtpkfjfpknbhekaaDyMx
import Derived.Test.YtpkfjfpknbhekaaRfIx
namespace Go.Proofs.Ytpkfjfpknbhekaa
open Go.RowKit Pl
attribute [local go_sem ↓] Go.wp_at_zero Go.wp_at_succ

set_option maxRecDepth 100000 in
set_option maxHeartbeats 4000000 in
theorem rsame_any (u v : Value) (a b : Dy) (w : World) (h : RdD w u a) (k : RdD w v b) :
    Calls Try.prog 60 #[u, v] w fun e w' => e = .returned (.bool (sameD a b)) ∧ Below w.heap.size w w' := by
  obtain ⟨A, n, c, rfl, hr, _, _, _⟩ := h
  obtain ⟨B, m, d, rfl, kr, _, _, _⟩ := k
  obtain ⟨an, am, ae⟩ := a
  obtain ⟨bn, bm, be⟩ := b
  simp only at hr kr ⊢
  obtain ⟨hA, hB, hb0⟩ := box_2 w [.bool an, .slice A n c, .int .i64 ae] [.bool bn, .slice B m d, .int .i64 be] 24 24
  have hr0 := hr.below hb0
  have kr0 := kr.below hb0
  have a0 := hA.cell 0 rfl
  have a1 := hA.cell 1 rfl
  have a2 := hA.cell 2 rfl
  have b0 := hB.cell 0 rfl
  have b1 := hB.cell 1 rfl
  have b2 := hB.cell 2 rfl
  clear hr kr
  by_cases h1 : an = bn
  · by_cases h2 : ae = be
    · have hlen := hr0.len
      have klen := kr0.len
      by_cases h3 : n = m
      · have hres : Hid (sameD ⟨an, am, ae⟩ ⟨bn, bm, be⟩ = decide (am = bm)) := by unfold Hid sameD; simp [h1, h2]
        have hnm : Hid (am.length = bm.length) := by unfold Hid; omega
        obtain ⟨_, hcap, hmax, hat⟩ := hr0
        obtain ⟨_, kcap, kmax, kat⟩ := kr0
        unfold maxLen at hmax kmax
        subst h1 h2 h3
        go_enter Try.func60, Try.ntmps60
        go_upto_region 1 with fail
        generalize ((w.alloc (.cells #[.bool an, .slice A n c, .int .i64 ae] 24)).alloc (.cells #[.bool an, .slice B n d, .int .i64 ae] 24)) = W at *
        go_wp2_with fail
        clear a0 a1 a2 b0 b1 b2
        go_loopw [5] (fun i wr => ∃ q : Nat, q ≤ n ∧ i = .int .i64 (q : Int) ∧ Hid (∀ k, k < q → nth am k = nth bm k) ∧ Below W.heap.size W wr) (fun i _ => n - (intOf i).toNat)
        case atStart => exact ⟨0, Nat.zero_le _, rfl, fun k hk => absurd hk (by omega), Below.refl _ _⟩
        case round =>
          obtain ⟨q, hq, rfl, hT, hbw⟩ := hrel
          have a1 := (hA.keep hbw).cell 1 rfl
          have b1 := (hB.keep hbw).cell 1 rfl
          have hbW := below_then hb0 hbw
          rcases Nat.lt_or_ge q n with hlt | hge
          · obtain ⟨b, off, rfl, hb, hc⟩ := hat (by omega)
            obtain ⟨b2, off2, rfl, hb2, hc2⟩ := kat (by omega)
            have hcell := RdN.cellW hc hb hbw q hlt
            have hcell2 := RdN.cellW hc2 hb2 hbw q (by omega)
            have i1 : (0 : Int) ≤ (q : Int) := by omega
            have i2 : (q : Int) < (n : Int) := by omega
            have i3 : (q : Int) < (n : Int) := by omega
            clear hat kat hc hc2
            by_cases he : nth am q = nth bm q
            · have e1 : ((nth am q : Int) != (nth bm q : Int)) = false := by rw [he]; simp
              have hT2 : Hid (∀ k, k < q + 1 → nth am k = nth bm k) := fun k hk => by
                rcases Nat.lt_or_ge k q with h1 | h1
                · exact hT.out k h1
                · rw [show k = q by omega]; exact he
              clear hT he
              go_wp2_with fail
              go_quiet (fail)
              have hb3 := below_drewN hbw nq
              clear a1 b1 hbw hbW
              go_wp2
              go_roundw
              case rel => exact ⟨q + 1, by omega, by go_num, hT2, hb3⟩
              case measure => simp [intOf]; omega
            · have e1 : ((nth am q : Int) != (nth bm q : Int)) = true := by rw [bne_iff_ne]; omega
              have hne : Hid (decide (am = bm) = false) := by
                unfold Hid
                rw [decide_eq_false_iff_not]
                intro e
                exact he (by rw [e])
              clear hT he
              go_wp2_with fail
              go_quiet (fail)
              have hb3 := below_drewN hbW nq
              go_wp2
              go_ret
              exact ⟨ret_bool (by rw [hres.out, hne.out]), hb3⟩
          · obtain rfl : q = n := by omega
            have heq : Hid (decide (am = bm) = true) := by
              unfold Hid
              rw [decide_eq_true_iff]
              exact nth_ext hnm.out (fun k hk => hT.out k (by omega))
            clear hat kat hT
            go_wp2
            go_ret
            exact ⟨ret_bool (by rw [hres.out, heq.out]), hbW⟩
      · have d3 : ((n : Int) != (m : Int)) = true := by rw [bne_iff_ne]; omega
        have hres : Hid (sameD ⟨an, am, ae⟩ ⟨bn, bm, be⟩ = false) := by
          unfold Hid sameD
          simp only [h1, h2, decide_true, Bool.true_and]
          rw [decide_eq_false_iff_not]
          intro e
          exact h3 (by rw [← hlen, ← klen, e])
        clear h3
        subst h1 h2
        go_enter Try.func60, Try.ntmps60
        go_upto_region 1 with fail
        generalize ((w.alloc (.cells #[.bool an, .slice A n c, .int .i64 ae] 24)).alloc (.cells #[.bool an, .slice B m d, .int .i64 ae] 24)) = W at *
        go_wp2
        go_ret
        exact ⟨ret_bool hres.out.symm, hb0⟩
    · have d2 : (ae != be) = true := bne_iff_ne.2 h2
      have hres : Hid (sameD ⟨an, am, ae⟩ ⟨bn, bm, be⟩ = false) := by unfold Hid sameD; simp [h2]
      clear h2
      subst h1
      go_enter Try.func60, Try.ntmps60
      go_upto_region 1 with fail
      generalize ((w.alloc (.cells #[.bool an, .slice A n c, .int .i64 ae] 24)).alloc (.cells #[.bool an, .slice B m d, .int .i64 be] 24)) = W at *
      go_wp2
      go_ret
      exact ⟨ret_bool hres.out.symm, hb0⟩
  · have hres : ∀ x y : Bool, x ≠ y → sameD ⟨x, am, ae⟩ ⟨y, bm, be⟩ = false := fun x y h => by unfold sameD; simp [h]
    have HR := hide hres
    clear hres
    cases an <;> cases bn
    · exact absurd rfl h1
    · clear h1
      go_enter Try.func60, Try.ntmps60
      go_upto_region 1 with fail
      generalize ((w.alloc (.cells #[.bool false, .slice A n c, .int .i64 ae] 24)).alloc (.cells #[.bool true, .slice B m d, .int .i64 be] 24)) = W at *
      go_wp2
      go_ret
      exact ⟨ret_bool (HR.out _ _ (by decide)).symm, hb0⟩
    · clear h1
      go_enter Try.func60, Try.ntmps60
      go_upto_region 1 with fail
      generalize ((w.alloc (.cells #[.bool true, .slice A n c, .int .i64 ae] 24)).alloc (.cells #[.bool false, .slice B m d, .int .i64 be] 24)) = W at *
      go_wp2
      go_ret
      exact ⟨ret_bool (HR.out _ _ (by decide)).symm, hb0⟩
    · exact absurd rfl h1

end Go.Proofs.Ytpkfjfpknbhekaa
