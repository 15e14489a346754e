/- Contracts of the document's answer sluicewayref1, part L: SameDyad, NegDyad, Small, great. Words for regions that draw their order, read many variables, and store a Dyad into one. -/
import Derived.Test.YtbpfnooloemieaaGreatDoorL2Ax
import Derived.Test.YtbpfnooloemieaaGreatDoorRfHx
namespace Go.Proofs.YtbpfnooloemieaaGreatDoor
open Go.RowKit Pl
attribute [local go_sem ↓] Go.wp_at_zero Go.wp_at_succ

set_option maxRecDepth 100000 in
set_option maxHeartbeats 4000000 in
theorem rsame_any (u v : Value) (a b : Dy) (w : World) (h : RdD w u a) (k : RdD w v b) :
    Calls Tryz.prog 15 #[u, v] w fun e w' => e = .returned (.bool (sameD a b)) ∧ Below w.heap.size w w' := by
  obtain ⟨A, n, c, rfl, hr, _, _, _⟩ := h
  obtain ⟨B, m, d, rfl, kr, _, _, _⟩ := k
  obtain ⟨an, am, ae⟩ := a
  obtain ⟨bn, bm, be⟩ := b
  simp only at hr kr ⊢
  obtain ⟨hA, hB, hb0⟩ := box_2 w [.bool an, .slice A n c, .int .i64 ae] [.bool bn, .slice B m d, .int .i64 be] 30 30
  have hr0 := hr.below hb0
  have kr0 := kr.below hb0
  have a0 := hA.cell 0 rfl
  have a1 := hA.cell 1 rfl
  have a2 := hA.cell 2 rfl
  have b0 := hB.cell 0 rfl
  have b1 := hB.cell 1 rfl
  have b2 := hB.cell 2 rfl
  clear hr kr
  by_cases h1 : an = bn
  · by_cases h2 : ae = be
    · have hlen := hr0.len
      have klen := kr0.len
      by_cases h3 : n = m
      · have hres : Hid (sameD ⟨an, am, ae⟩ ⟨bn, bm, be⟩ = decide (am = bm)) := by unfold Hid sameD; simp [h1, h2]
        have hnm : Hid (am.length = bm.length) := by unfold Hid; omega
        obtain ⟨_, hcap, hmax, hat⟩ := hr0
        obtain ⟨_, kcap, kmax, kat⟩ := kr0
        unfold maxLen at hmax kmax
        subst h1 h2 h3
        go_enter Tryz.func15, Tryz.ntmps15
        go_upto_region 1 with fail
        generalize ((w.alloc (.cells #[.bool an, .slice A n c, .int .i64 ae] 30)).alloc (.cells #[.bool an, .slice B n d, .int .i64 ae] 30)) = W at *
        go_wp2_with fail
        clear a0 a1 a2 b0 b1 b2
        go_loopw [5] (fun i wr => ∃ q : Nat, q ≤ n ∧ i = .int .i64 (q : Int) ∧ Hid (∀ k, k < q → nth am k = nth bm k) ∧ Below W.heap.size W wr) (fun i _ => n - (intOf i).toNat)
        case atStart => exact ⟨0, Nat.zero_le _, rfl, fun k hk => absurd hk (by omega), Below.refl _ _⟩
        case round =>
          obtain ⟨q, hq, rfl, hT, hbw⟩ := hrel
          have a1 := (hA.keep hbw).cell 1 rfl
          have b1 := (hB.keep hbw).cell 1 rfl
          have hbW := below_then hb0 hbw
          rcases Nat.lt_or_ge q n with hlt | hge
          · obtain ⟨b, off, rfl, hb, hc⟩ := hat (by omega)
            obtain ⟨b2, off2, rfl, hb2, hc2⟩ := kat (by omega)
            have hcell := RdN.cellW hc hb hbw q hlt
            have hcell2 := RdN.cellW hc2 hb2 hbw q (by omega)
            have i1 : (0 : Int) ≤ (q : Int) := by omega
            have i2 : (q : Int) < (n : Int) := by omega
            have i3 : (q : Int) < (n : Int) := by omega
            clear hat kat hc hc2
            by_cases he : nth am q = nth bm q
            · have e1 : ((nth am q : Int) != (nth bm q : Int)) = false := by rw [he]; simp
              have hT2 : Hid (∀ k, k < q + 1 → nth am k = nth bm k) := fun k hk => by
                rcases Nat.lt_or_ge k q with h1 | h1
                · exact hT.out k h1
                · rw [show k = q by omega]; exact he
              clear hT he
              go_wp2_with fail
              go_quiet (fail)
              have hb3 := below_drewN hbw nq
              clear a1 b1 hbw hbW
              go_wp2
              go_roundw
              case rel => exact ⟨q + 1, by omega, by go_num, hT2, hb3⟩
              case measure => simp [intOf]; omega
            · have e1 : ((nth am q : Int) != (nth bm q : Int)) = true := by rw [bne_iff_ne]; omega
              have hne : Hid (decide (am = bm) = false) := by
                unfold Hid
                rw [decide_eq_false_iff_not]
                intro e
                exact he (by rw [e])
              clear hT he
              go_wp2_with fail
              go_quiet (fail)
              have hb3 := below_drewN hbW nq
              go_wp2
              go_ret
              exact ⟨ret_bool (by rw [hres.out, hne.out]), hb3⟩
          · obtain rfl : q = n := by omega
            have heq : Hid (decide (am = bm) = true) := by
              unfold Hid
              rw [decide_eq_true_iff]
              exact nth_ext hnm.out (fun k hk => hT.out k (by omega))
            clear hat kat hT
            go_wp2
            go_ret
            exact ⟨ret_bool (by rw [hres.out, heq.out]), hbW⟩
      · have d3 : ((n : Int) != (m : Int)) = true := by rw [bne_iff_ne]; omega
        have hres : Hid (sameD ⟨an, am, ae⟩ ⟨bn, bm, be⟩ = false) := by
          unfold Hid sameD
          simp only [h1, h2, decide_true, Bool.true_and]
          rw [decide_eq_false_iff_not]
          intro e
          exact h3 (by rw [← hlen, ← klen, e])
        clear h3
        subst h1 h2
        go_enter Tryz.func15, Tryz.ntmps15
        go_upto_region 1 with fail
        generalize ((w.alloc (.cells #[.bool an, .slice A n c, .int .i64 ae] 30)).alloc (.cells #[.bool an, .slice B m d, .int .i64 ae] 30)) = W at *
        go_wp2
        go_ret
        exact ⟨ret_bool hres.out.symm, hb0⟩
    · have d2 : (ae != be) = true := bne_iff_ne.2 h2
      have hres : Hid (sameD ⟨an, am, ae⟩ ⟨bn, bm, be⟩ = false) := by unfold Hid sameD; simp [h2]
      clear h2
      subst h1
      go_enter Tryz.func15, Tryz.ntmps15
      go_upto_region 1 with fail
      generalize ((w.alloc (.cells #[.bool an, .slice A n c, .int .i64 ae] 30)).alloc (.cells #[.bool an, .slice B m d, .int .i64 be] 30)) = W at *
      go_wp2
      go_ret
      exact ⟨ret_bool hres.out.symm, hb0⟩
  · have hres : ∀ x y : Bool, x ≠ y → sameD ⟨x, am, ae⟩ ⟨y, bm, be⟩ = false := fun x y h => by unfold sameD; simp [h]
    have HR := hide hres
    clear hres
    cases an <;> cases bn
    · exact absurd rfl h1
    · clear h1
      go_enter Tryz.func15, Tryz.ntmps15
      go_upto_region 1 with fail
      generalize ((w.alloc (.cells #[.bool false, .slice A n c, .int .i64 ae] 30)).alloc (.cells #[.bool true, .slice B m d, .int .i64 be] 30)) = W at *
      go_wp2
      go_ret
      exact ⟨ret_bool (HR.out _ _ (by decide)).symm, hb0⟩
    · clear h1
      go_enter Tryz.func15, Tryz.ntmps15
      go_upto_region 1 with fail
      generalize ((w.alloc (.cells #[.bool true, .slice A n c, .int .i64 ae] 30)).alloc (.cells #[.bool false, .slice B m d, .int .i64 be] 30)) = W at *
      go_wp2
      go_ret
      exact ⟨ret_bool (HR.out _ _ (by decide)).symm, hb0⟩
    · exact absurd rfl h1

theorem signD_ne (d : Dy) : (signD d != 0) = (mayD d && decide (d.m.length ≠ 0)) := by
  unfold signD
  cases h : mayD d
  · simp
  · by_cases h0 : d.m.length = 0
    · simp [h0]
    · cases d.neg <;> simp [h0]

set_option maxRecDepth 100000 in
set_option maxHeartbeats 4000000 in
theorem rneg_any (v : Value) (d : Dy) (w : World) (h : RdD w v d) :
    Calls Tryz.prog 109 #[v] w fun e w' => DyRet w' e (negS d) ∧ Below w.heap.size w w' := by
  have hd := h
  obtain ⟨A, n, c, rfl, hr, hl, he1, he2⟩ := h
  have hs := signD_ne d
  obtain ⟨neg, m, e⟩ := d
  simp only at hr hl he1 he2 hs ⊢
  obtain ⟨hA, hB, hb0⟩ := box_2 w [.bool neg, .slice A n c, .int .i64 e] [.bool false, .slice none 0 0, .int .i64 0] 30 30
  have hd0 := hd.below hb0
  have hr0 := hr.below hb0
  have a0 := hA.cell 0 rfl
  have a1 := hA.cell 1 rfl
  have a2 := hA.cell 2 rfl
  obtain ⟨q, hq⟩ : ∃ q, q = signD ⟨neg, m, e⟩ := ⟨_, rfl⟩
  have HQ := hide hq
  rw [← hq] at hs
  clear hq hr hd
  go_enter Tryz.func109, Tryz.ntmps109
  go_upto_region 1 with fail
  generalize ((w.alloc (.cells #[.bool neg, .slice A n c, .int .i64 e] 30)).alloc (.cells #[.bool false, .slice none 0 0, .int .i64 0] 30)) = W at *
  go_wp2_with fail
  refine (rsignD_any _ _ _ hd0).mono ?_
  rw [← HQ.out]
  rintro z w3 ⟨rfl, hb3⟩
  have hA3 := hA.keep hb3
  have hB3 := hB.keep hb3
  have hr3 := hr0.below hb3
  have hb03 := below_then hb0 hb3
  clear a0 a1 a2 hr0 hd0 hA hB hb0 hb3
  by_cases hc : mayD ⟨neg, m, e⟩ = true ∧ m.length ≠ 0
  · have hres : Hid (negS ⟨neg, m, e⟩ = ⟨!neg, m, e⟩) := by unfold Hid negS; rw [if_pos hc]
    rw [hc.1, decide_eq_true hc.2] at hs
    have hs2 : (q != 0) = true := hs
    have f0 := hA3.frozen 0
    have a0 := hA3.cell 0 rfl
    have a1 := hA3.cell 1 rfl
    have a2 := hA3.cell 2 rfl
    have hA4 := hA3.set 0 (.bool (!neg))
    have hB4 := hB3.far (show w.heap.size + 1 ≠ w.heap.size by omega) 0 (.bool (!neg))
    have hr4 := hr3.apart hA3 (dy_no _ _ _ ⟨_, _, _, rfl⟩) 0 (.bool (!neg))
    have hb4 : Below w.heap.size w (w3.setCell ⟨w.heap.size, 0, none⟩ (.bool (!neg))) := hb03.setCell (Nat.le_refl _) _
    clear hc hs
    go_upto_region 3 with fail
    clear hr3 hA3 hB3 hb03 f0 a0 a1 a2 hs2
    generalize w3.setCell ⟨w.heap.size, 0, none⟩ (.bool (!neg)) = W4 at *
    have a0 := hA4.cell 0 rfl
    have a1 := hA4.cell 1 rfl
    have a2 := hA4.cell 2 rfl
    have f0 := hB4.frozen 0
    have f1 := hB4.frozen 1
    have f2 := hB4.frozen 2
    have b0 := hB4.cell 0 rfl
    have b1 := hB4.cell 1 rfl
    have b2 := hB4.cell 2 rfl
    obtain ⟨q0, q1, q2, HF⟩ := face_store (d := ⟨!neg, m, e⟩) ⟨_, _, _, _, _, hB4⟩ hr4 hb4 (show w.heap.size ≤ w.heap.size + 1 by omega)
    simp only at q0 q1 q2 HF
    clear hA4 hB4 hr4 hb4
    go_wp2
    exact bodyPost_ret (v := .agg #[.bool (!neg), .slice A n c, .int .i64 e]) (by simp [results, Tryz.results109, go_sem, q0, q1, q2]) rfl ⟨⟨A, n, c, by rw [hres.out], by rw [hres.out]; exact ⟨_, _, _, rfl, HF.out.1, hl, he1, he2⟩⟩, HF.out.2⟩
  · have hres : Hid (negS ⟨neg, m, e⟩ = ⟨neg, m, e⟩) := by unfold Hid negS; rw [if_neg hc]
    have hs2 : (q != 0) = false := by
      rw [hs, Bool.and_eq_false_iff]
      by_cases hm : mayD ⟨neg, m, e⟩ = true
      · exact .inr (decide_eq_false (fun h => hc ⟨hm, h⟩))
      · exact .inl (by simpa using hm)
    have a0 := hA3.cell 0 rfl
    have a1 := hA3.cell 1 rfl
    have a2 := hA3.cell 2 rfl
    have f0 := hB3.frozen 0
    have f1 := hB3.frozen 1
    have f2 := hB3.frozen 2
    have b0 := hB3.cell 0 rfl
    have b1 := hB3.cell 1 rfl
    have b2 := hB3.cell 2 rfl
    obtain ⟨q0, q1, q2, HF⟩ := face_store (d := ⟨neg, m, e⟩) ⟨_, _, _, _, _, hB3⟩ hr3 hb03 (show w.heap.size ≤ w.heap.size + 1 by omega)
    simp only at q0 q1 q2 HF
    clear hA3 hB3 hr3 hb03 hc hs
    go_wp2
    exact bodyPost_ret (v := .agg #[.bool neg, .slice A n c, .int .i64 e]) (by simp [results, Tryz.results109, go_sem, q0, q1, q2]) rfl ⟨⟨A, n, c, by rw [hres.out], by rw [hres.out]; exact ⟨_, _, _, rfl, HF.out.1, hl, he1, he2⟩⟩, HF.out.2⟩

theorem dig256 (X : Nat) : (limbs DD X).length ≤ 256 ↔ (limbs BB X).length ≤ 64 := by
  rw [limbs_len_le DD_gt1, limbs_len_le BB_gt1, BB_DD, ← Nat.pow_mul]
set_option maxHeartbeats 1000000 in
theorem great_any (u : Value) (X : Nat) (w : World) (h : R16 w u X) :
    Calls Tryz.prog 139 #[u] w fun e w' => e = .returned (.bool (decide (¬ (limbs BB X).length ≤ 64))) ∧ w = w' := by
  obtain ⟨A, n, c, rfl, hr⟩ := h
  have hlen := hr.len
  have hd := dig256 X
  by_cases h1 : n ≤ 256
  · have HD : Hid (decide (¬ (limbs BB X).length ≤ 64) = false) := decide_eq_false (by rw [← hd]; omega)
    have d1 : decide ((256 : Int) < (n : Int)) = false := decide_eq_false (by omega)
    clear h1 hd
    go_enter Tryz.func139, Tryz.ntmps139
    go_wp2
    go_ret
    exact ⟨ret_bool HD.out.symm, rfl⟩
  · have HD : Hid (decide (¬ (limbs BB X).length ≤ 64) = true) := decide_eq_true (by rw [← hd]; omega)
    have d1 : decide ((256 : Int) < (n : Int)) = true := decide_eq_true (by omega)
    clear h1 hd
    go_enter Tryz.func139, Tryz.ntmps139
    go_wp2
    go_ret
    exact ⟨ret_bool HD.out.symm, rfl⟩
end Go.Proofs.YtbpfnooloemieaaGreatDoor
namespace Go.Proofs.YtbpfnooloemieaaGreatDoor
open Go.RowKit Pl

structure HeldB (w0 : World) (B : Nat) (bs : List (Nat × List Value × TypeId)) (b3 : Nat) (t3 : TypeId) (w : World) : Prop where
  x : ∀ p ∈ bs, Box w p.1 p.2.1 p.2.2
  z : SomeDy w b3 t3
  b : Below B w0 w
theorem heldb_open {w0 W : World} {B b3 : Nat} {t3 : TypeId} (bs : List (Nat × List Value × TypeId)) (hA : ∀ p ∈ bs, Box W p.1 p.2.1 p.2.2) (hC : SomeDy W b3 t3) (hb : Below B w0 W) (hn : ∀ p ∈ bs, p.1 ≠ b3) (g3 : B ≤ b3) :
    ∃ S : World → Prop, Kept S W ∧ (∀ w', Kept S w' → Kept S w'.drew) ∧ (∀ w' w'', Kept S w' → Below w'.heap.size w' w'' → Kept S w'') ∧
      (∀ w', Kept S w' → ∀ g A n c e, Kept S (((w'.setCell ⟨b3, 0, none⟩ (.bool g)).setCell ⟨b3, 1, none⟩ (.slice A n c)).setCell ⟨b3, 2, none⟩ (.int .i64 e))) ∧
      ((∃ c0 : World → Value, ∀ w, Kept S w → w.cell? ⟨b3, 0, none⟩ = some (c0 w)) ∧ (∃ c1 : World → Value, ∀ w, Kept S w → w.cell? ⟨b3, 1, none⟩ = some (c1 w)) ∧ (∃ c2 : World → Value, ∀ w, Kept S w → w.cell? ⟨b3, 2, none⟩ = some (c2 w)) ∧
        (∀ w, Kept S w → w.frozen? ⟨b3, 0, none⟩ = false) ∧ (∀ w, Kept S w → w.frozen? ⟨b3, 1, none⟩ = false) ∧ (∀ w, Kept S w → w.frozen? ⟨b3, 2, none⟩ = false)) ∧
      (∀ w', Kept S w' → Below B w0 w') ∧ (∀ w', Kept S w' → SomeDy w' b3 t3) ∧ (∀ w', Kept S w' → ∀ p ∈ bs, Box w' p.1 p.2.1 p.2.2) := by
  refine ⟨HeldB w0 B bs b3 t3, ⟨hA, hC, hb⟩, fun w' h => ?_, fun w' w'' h hb => ?_, fun w' h g A n c e => ?_, ?_, ?_, ?_, ?_⟩
  · have h : HeldB w0 B bs b3 t3 w' := h
    exact ⟨fun p hp => (h.x p hp).drew, by obtain ⟨g, A, n, c, e, hz⟩ := h.z; exact ⟨g, A, n, c, e, hz.drew⟩, h.b.drew⟩
  · have h : HeldB w0 B bs b3 t3 w' := h
    obtain ⟨g, A, n, c, e, hz⟩ := h.z
    exact ⟨fun p hp => (h.x p hp).keep hb, ⟨g, A, n, c, e, hz.keep hb⟩, h.b.trans (hb.mono (Nat.le_trans g3 (Nat.le_of_lt hz.lt)))⟩
  · have h : HeldB w0 B bs b3 t3 w' := h
    obtain ⟨g', A', n', c', e', hz⟩ := h.z
    exact ⟨fun p hp => (h.x p hp).far3 (hn p hp) _ _ _, ⟨_, _, _, _, _, hz.store3 _ _ _⟩, below_store3 h.b g3 _ _ _⟩
  · exact some_cells (fun w' h => HeldB.z h)
  · exact fun w' h => HeldB.b h
  · exact fun w' h => HeldB.z h
  · exact fun w' h => HeldB.x h
end Go.Proofs.YtbpfnooloemieaaGreatDoor
