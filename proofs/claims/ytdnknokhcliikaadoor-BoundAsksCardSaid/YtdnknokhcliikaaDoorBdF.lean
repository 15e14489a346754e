/- sluicewaylaw22: BoundAsks. -/
import Derived.Test.YtdnknokhcliikaaDoorRfG
import Derived.Test.YtdnknokhcliikaaDoorBdE
namespace Go.Proofs.YtdnknokhcliikaaDoor
open Go.RowKit Pl

theorem att_unique {t : Int} {e h l : Dy} {r s : Int} (hr : AttPost t e h l r) (hs : AttPost t e h l s) : r = s := by
  unfold AttPost at hr hs
  by_cases hc : signD e ≤ 0 ∨ signD h ≤ 0 ∨ signD l ≤ 0 ∨ 0 < cmpD l h ∨ t < 1 ∨ 20 < t
  · rw [if_pos hc] at hr hs; rw [hr, hs]
  · rw [if_neg hc] at hr hs
    obtain ⟨K, e1, a1, b1⟩ := hr
    obtain ⟨J, e2, a2, b2⟩ := hs
    have key : ∀ {K J : Nat}, (∀ i : Nat, 1 ≤ i → i ≤ J → goodH h l i ∧ t * i < 1000000) → (¬ goodH h l (K + 1) ∨ 1000000 ≤ t * ((K : Int) + 1)) → J ≤ K := by
      intro K J a b
      rcases Nat.lt_or_ge K J with hlt | hge
      · obtain ⟨g1, g2⟩ := a (K + 1) (by omega) hlt
        rcases b with b | b
        · exact absurd g1 b
        · rw [show ((K + 1 : Nat) : Int) = (K : Int) + 1 by omega] at g2
          omega
      · exact hge
    have : K = J := Nat.le_antisymm (key a1 b2) (key a2 b1)
    rw [e1, e2, this]
/-- The number of attempts. -/
noncomputable def attE (t : Int) (e h l : Dy) : Int := Classical.epsilon (AttPost t e h l)
theorem attE_of {t : Int} {e h l : Dy} {r : Int} (hr : AttPost t e h l r) : r = attE t e h l := att_unique hr (Classical.epsilon_spec ⟨r, hr⟩)
theorem attempts_e (t : Int) (v : Value) (e h l : Dy) (w : World) (hp : RdP w v t e h l) (hT : TabAt w) :
    Calls Tryd.prog 16 #[v] w fun x w' => x = .returned (.int .i64 (attE t e h l)) ∧ Below w.heap.size w w' :=
  (attempts_any t v e h l w hp hT).mono fun _ _ ⟨_, h1, h2, h3⟩ => ⟨by rw [h1, attE_of h2], h3⟩
theorem rattempts_e (t : Int) (v : Value) (e h l : Dy) (w : World) (hp : RdP w v t e h l) :
    Calls Tryd.prog 17 #[v] w fun x w' => x = .returned (.int .i64 (attE t e h l)) ∧ Below w.heap.size w w' :=
  (rattempts_any t v e h l w hp).mono fun _ _ ⟨_, h1, h2, h3⟩ => ⟨by rw [h1, attE_of h2], h3⟩

set_option maxRecDepth 100000 in
set_option maxHeartbeats 4000000 in
theorem asks_any (r s : Int) (u1 u2 u3 : Value) (e h l : Dy) (t : Int) (w : World) (he : RdD w u1 e) (hh : RdD w u2 h) (hl : RdD w u3 l) (hT : TabAt w) :
    Calls Tryd.prog 3 #[.int .i64 r, .int .i64 s, u1, u2, u3, .int .i64 t] w fun x w' => x = .returned (.bool true) ∧ Below w.heap.size w w' := by
  have he' := he
  have hh' := hh
  have hl' := hl
  obtain ⟨A, n, c, rfl, her, -, he1, he2⟩ := he
  obtain ⟨B, m, d, rfl, hhr, -, hh1, hh2⟩ := hh
  obtain ⟨C, o, f, rfl, hlr, -, hl1, hl2⟩ := hl
  obtain ⟨hA, hB, hC, hb0⟩ := box_3 w [.bool e.neg, .slice A n c, .int .i64 e.e] [.bool h.neg, .slice B m d, .int .i64 h.e] [.bool l.neg, .slice C o f, .int .i64 l.e] 24 24 24
  go_enter Tryd.func3, Tryd.ntmps3
  go_upto_region 1 with fail
  generalize (((w.alloc (.cells #[.bool e.neg, .slice A n c, .int .i64 e.e] 24)).alloc (.cells #[.bool h.neg, .slice B m d, .int .i64 h.e] 24)).alloc (.cells #[.bool l.neg, .slice C o f, .int .i64 l.e] 24)) = W at *
  have ee := he'.below hb0
  have eh := hh'.below hb0
  have el := hl'.below hb0
  have hT1 := hide (hT.below hb0)
  clear he' hh' hl' her hhr hlr hT
  have a0 := hA.cell 0 rfl
  have a1 := hA.cell 1 rfl
  have a2 := hA.cell 2 rfl
  have b0 := hB.cell 0 rfl
  have b1 := hB.cell 1 rfl
  have b2 := hB.cell 2 rfl
  have c0 := hC.cell 0 rfl
  have c1 := hC.cell 1 rfl
  have c2 := hC.cell 2 rfl
  go_cut [49] (fun z wx => ∃ q : Bool, z = .bool q ∧ wx = W)
  case first =>
    by_cases q0 : 6 < (n : Int)
    · have g0 : decide (6 < (n : Int)) = true := by simpa using q0
      have i0 : decide (6 < n) = true := by simp; omega
      go_wp2
      go_meet
      exact ⟨true, rfl, rfl⟩
    · have g0 : decide (6 < (n : Int)) = false := by simpa using q0
      have i0 : decide (6 < n) = false := by simp; omega
      by_cases q1 : 6 < (m : Int)
      · have g1 : decide (6 < (m : Int)) = true := by simpa using q1
        have i1 : decide (6 < m) = true := by simp; omega
        go_wp2
        go_meet
        exact ⟨true, rfl, rfl⟩
      · have g1 : decide (6 < (m : Int)) = false := by simpa using q1
        have i1 : decide (6 < m) = false := by simp; omega
        by_cases q2 : 6 < (o : Int)
        · have g2 : decide (6 < (o : Int)) = true := by simpa using q2
          have i2 : decide (6 < o) = true := by simp; omega
          go_wp2
          go_meet
          exact ⟨true, rfl, rfl⟩
        · have g2 : decide (6 < (o : Int)) = false := by simpa using q2
          have i2 : decide (6 < o) = false := by simp; omega
          by_cases q3 : 3000 < h.e
          · have g3 : decide (3000 < h.e) = true := by simpa using q3
            go_wp2
            go_meet
            exact ⟨true, rfl, rfl⟩
          · have g3 : decide (3000 < h.e) = false := by simpa using q3
            by_cases q4 : h.e < -3000
            · have g4 : decide (h.e < -3000) = true := by simpa using q4
              go_wp2
              go_meet
              exact ⟨true, rfl, rfl⟩
            · have g4 : decide (h.e < -3000) = false := by simpa using q4
              by_cases q5 : 3000 < l.e
              · have g5 : decide (3000 < l.e) = true := by simpa using q5
                go_wp2
                go_meet
                exact ⟨true, rfl, rfl⟩
              · have g5 : decide (3000 < l.e) = false := by simpa using q5
                by_cases q6 : l.e < -3000
                · have g6 : decide (l.e < -3000) = true := by simpa using q6
                  go_wp2
                  go_meet
                  exact ⟨true, rfl, rfl⟩
                · have g6 : decide (l.e < -3000) = false := by simpa using q6
                  go_wp2
                  go_meet
                  exact ⟨false, rfl, rfl⟩
  obtain ⟨q, rfl, rfl⟩ := hcut
  cases q
  · go_upto_region 3 with fail
    have hP := Box.new wc [.int .i64 0, .int .i64 t, .int .i64 0, .int .i64 0, .bool e.neg, .slice A n c, .int .i64 e.e, .bool h.neg, .slice B m d, .int .i64 h.e, .bool l.neg, .slice C o f, .int .i64 l.e, .bool false, .slice none 0 0, .int .i64 0, .slice none 0 0, .slice none 0 0, .slice none 0 0, .slice none 0 0, .slice none 0 0, .slice none 0 0] 31
    have hbP : Below wc.heap.size wc (wc.alloc (.cells #[.int .i64 0, .int .i64 t, .int .i64 0, .int .i64 0, .bool e.neg, .slice A n c, .int .i64 e.e, .bool h.neg, .slice B m d, .int .i64 h.e, .bool l.neg, .slice C o f, .int .i64 l.e, .bool false, .slice none 0 0, .int .i64 0, .slice none 0 0, .slice none 0 0, .slice none 0 0, .slice none 0 0, .slice none 0 0, .slice none 0 0] 31)) := by go_grown
    have hp : RdP (wc.alloc (.cells #[.int .i64 0, .int .i64 t, .int .i64 0, .int .i64 0, .bool e.neg, .slice A n c, .int .i64 e.e, .bool h.neg, .slice B m d, .int .i64 h.e, .bool l.neg, .slice C o f, .int .i64 l.e, .bool false, .slice none 0 0, .int .i64 0, .slice none 0 0, .slice none 0 0, .slice none 0 0, .slice none 0 0, .slice none 0 0, .slice none 0 0] 31)) (.agg #[.int .i64 0, .int .i64 t, .int .i64 0, .int .i64 0, .bool e.neg, .slice A n c, .int .i64 e.e, .bool h.neg, .slice B m d, .int .i64 h.e, .bool l.neg, .slice C o f, .int .i64 l.e, .bool false, .slice none 0 0, .int .i64 0, .slice none 0 0, .slice none 0 0, .slice none 0 0, .slice none 0 0, .slice none 0 0, .slice none 0 0]) t e h l := ⟨_, _, _, _, _, _, _, _, _, rfl, ee.below hbP, eh.below hbP, el.below hbP⟩
    have HT2 := hide (hT1.out.below hbP)
    go_cut [13] (fun z wx => z = .pointer (some ⟨wc.heap.size, 0, none⟩) ∧ wx = (wc.alloc (.cells #[.int .i64 0, .int .i64 t, .int .i64 0, .int .i64 0, .bool e.neg, .slice A n c, .int .i64 e.e, .bool h.neg, .slice B m d, .int .i64 h.e, .bool l.neg, .slice C o f, .int .i64 l.e, .bool false, .slice none 0 0, .int .i64 0, .slice none 0 0, .slice none 0 0, .slice none 0 0, .slice none 0 0, .slice none 0 0, .slice none 0 0] 31)))
    case first =>
      go_wp2_with (refine wpList_store_plan rfl rfl rfl (by simp) rfl rfl rfl rfl ?_)
      go_meet
      exact ⟨rfl, rfl⟩
    obtain ⟨rfl, rfl⟩ := hcut
    generalize (wc.alloc (.cells #[.int .i64 0, .int .i64 t, .int .i64 0, .int .i64 0, .bool e.neg, .slice A n c, .int .i64 e.e, .bool h.neg, .slice B m d, .int .i64 h.e, .bool l.neg, .slice C o f, .int .i64 l.e, .bool false, .slice none 0 0, .int .i64 0, .slice none 0 0, .slice none 0 0, .slice none 0 0, .slice none 0 0, .slice none 0 0, .slice none 0 0] 31)) = W2 at *
    clear a0 a1 a2 b0 b1 b2 c0 c1 c2 ee eh el hA hB hC
    have HPP := hide hp
    clear hp
    go_upto_region 4 with fail
    refine wp_region_ext W2 (Below.refl _ _) (by kernel_rfl) ?_
    repeat (first
      | (refine quiet_load_row 31 _ rfl _ rfl _ hP Tryd.underlying31 (by kernel_rfl) (by first | rfl | go_simp) ?_)
      | quiet_step ((first
          | (go_at_call 13; with_reducible exact calls_ext (told_any _ (HT2.out.below (Ext.hb _))))
          | (go_at_call 14; with_reducible exact calls_extq (rounds_any r s _))
          | (go_at_call 15; with_reducible exact calls_extq (rrounds_any r s _))
          | (go_at_call 16; with_reducible exact calls_ext (attempts_e t _ e h l _ (HPP.out.below (Ext.hb _)) (HT2.out.below (Ext.hb _))))
          | (go_at_call 17; with_reducible exact calls_ext (rattempts_e t _ e h l _ (HPP.out.below (Ext.hb _)))))))
    refine wpQuiet_nil ?_
    rintro _ ⟨e3, rfl⟩
    have hb3 := e3.hb
    generalize e3.w = w3 at *
    go_wp2
    go_ret
    exact ⟨rfl, below_then (below_then hb0 hbP) hb3⟩
  · go_wp2_with fail
    refine (told_any _ hT1.out).mono ?_
    rintro x w2 ⟨rfl, hb2⟩
    go_wp2
    go_ret
    exact ⟨rfl, below_then hb0 hb2⟩
end Go.Proofs.YtdnknokhcliikaaDoor
