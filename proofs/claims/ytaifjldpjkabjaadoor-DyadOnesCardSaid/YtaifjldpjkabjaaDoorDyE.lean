/- Contracts of package dyad, part E: Shift. -/
import Derived.Test.YtaifjldpjkabjaaDoorDyD
namespace Go.Proofs.YtaifjldpjkabjaaDoor
open Go.RowKit Pl

theorem mayN_can {xs : List Nat} (h : mayN xs = true) : Cnl xs ∧ xs.length ≤ 64 := by
  unfold mayN at h
  rcases Nat.eq_zero_or_pos xs.length with h0 | h0
  · rw [List.length_eq_zero_iff.1 h0]
    exact ⟨by simp [Cnl], by simp⟩
  · have h1 : decide (xs.length = 0) = false := by rw [decide_eq_false_iff_not]; omega
    rw [h1, Bool.false_or, Bool.and_eq_true] at h
    obtain ⟨h2, h3⟩ := h
    refine ⟨?_, by simpa using h2⟩
    intro hl
    rw [List.getLast?_eq_getElem?] at hl
    have h4 : nth xs (xs.length - 1) = 0 := by simp [nth, List.getD_eq_getElem?_getD, hl]
    rw [h4] at h3
    simp at h3
theorem mayD_limbs {d : Dy} (h : mayD d = true) : Cnl d.m ∧ d.m.length ≤ 64 ∧ -1048576 ≤ d.e ∧ d.e ≤ 1048576 := by
  unfold mayD at h
  split at h
  · rename_i h0
    rw [List.length_eq_zero_iff.1 h0]
    simp only [Bool.and_eq_true, decide_eq_true_eq] at h
    exact ⟨by simp [Cnl], by simp, by omega, by omega⟩
  · simp only [Bool.and_eq_true, decide_eq_true_eq] at h
    obtain ⟨⟨⟨h1, _⟩, h3⟩, h4⟩ := h
    exact ⟨(mayN_can h1).1, (mayN_can h1).2, h3, h4⟩

/-- dyad.Shift. -/
def shiftS (d : Dy) (n : Int) : Dy × Int :=
  if mayD d = false then (Dy.zero, 1)
  else if d.m.length = 0 then (d, 0)
  else if ¬ (n ≤ 2097152 ∧ -2097152 ≤ n) then (Dy.zero, 3)
  else fitS d.neg (val BB d.m) (d.e + n)

set_option maxRecDepth 100000 in
set_option maxHeartbeats 1000000 in
theorem shift1_any (g1 g2 : Nat) (d : Dy) (n : Int) (A : Option Addr) (c : Nat) (W : World) (h0 : W.cell? ⟨g1, 0, none⟩ = some (.bool d.neg)) (h1 : W.cell? ⟨g1, 1, none⟩ = some (.slice A d.m.length c)) (h2 : W.cell? ⟨g1, 2, none⟩ = some (.int .i64 d.e))
    (h3 : W.cell? ⟨g2, 0, none⟩ = some (.int .i64 n)) (hr : RdN .u64 W A d.m.length c d.m) (hl : Lim BB d.m) (he1 : -9223372036854775808 ≤ d.e) (he2 : d.e ≤ 9223372036854775807) (hT : TabAt W) :
    Calls Tryd.prog 74 #[.pointer (some ⟨g1, 0, none⟩), .pointer (some ⟨g2, 0, none⟩)] W (FitPost W (shiftS d n)) := by
  obtain ⟨neg, m, e⟩ := d
  simp only at h0 h1 h2 hr hl he1 he2
  have hd : RdD W (.agg #[.bool neg, .slice A m.length c, .int .i64 e]) ⟨neg, m, e⟩ := ⟨A, m.length, c, rfl, hr, hl, he1, he2⟩
  have hb1 : Below W.heap.size W (W.alloc (.cells #[.bool false, .slice none 0 0, .int .i64 0] 24)) := by go_grown
  have hd1 := hd.below hb1
  have hr1 := hr.below hb1
  have k0 := cell_keep_alloc h0 (.cells #[.bool false, .slice none 0 0, .int .i64 0] 24)
  have k1 := cell_keep_alloc h1 (.cells #[.bool false, .slice none 0 0, .int .i64 0] 24)
  have k2 := cell_keep_alloc h2 (.cells #[.bool false, .slice none 0 0, .int .i64 0] 24)
  have k3 := cell_keep_alloc h3 (.cells #[.bool false, .slice none 0 0, .int .i64 0] 24)
  have hg1 := lt_of_cell h0
  have hg2 := lt_of_cell h3
  have HT := hide (hT.below hb1)
  clear h0 h1 h2 h3 hT
  by_cases hM : mayD ⟨neg, m, e⟩ = true
  · obtain ⟨hC, hl64, hle1, hle2⟩ := mayD_limbs hM
    simp only at hC hl64 hle1 hle2
    go_enter Tryd.func74, Tryd.ntmps74
    go_wp2_with fail
    refine (mayD_any _ _ _ hd1).mono ?_
    rw [hM]
    rintro e1 w2 ⟨rfl, hb2⟩
    have c0 := (hb2.cell (p := ⟨g1, 0, none⟩) (by simp <;> omega)).trans k0
    have c1 := (hb2.cell (p := ⟨g1, 1, none⟩) (by simp <;> omega)).trans k1
    have c2 := (hb2.cell (p := ⟨g1, 2, none⟩) (by simp <;> omega)).trans k2
    have c3 := (hb2.cell (p := ⟨g2, 0, none⟩) (by simp <;> omega)).trans k3
    have hr2 := hr1.below hb2
    have HT2 := hide (HT.out.below hb2)
    obtain ⟨hcc, hff⟩ := bcell hb2
    by_cases hz : m.length = 0
    · have e0 : ((m.length : Int) == 0) = true := by simp [hz]
      clear k0 k1 k2 k3
      obtain ⟨s1, s2, q0, q1, q2⟩ := store_dy (v0 := .bool neg) (v1 := .slice A m.length c) (v2 := .int .i64 e) rfl hb2
      have HR : Hid (shiftS ⟨neg, m, e⟩ n = (⟨neg, m, e⟩, 0)) := by
        unfold Hid shiftS
        rw [if_neg (by simp [hM]), if_pos hz]
      clear hz
      go_wp2_with (go_at_call 65; (with_reducible refine (must_yes _ _).mono ?_); rintro e w' ⟨rfl, rfl⟩)
      refine bodyPost_ret (v := .agg #[.bool neg, .slice A m.length c, .int .i64 e]) (by simp [results, Tryd.results74, go_sem, q0, q1, q2]) rfl ⟨s2, .inl ?_⟩
      rw [HR.out]
      exact ⟨rfl, _, rfl, _, _, _, rfl, s1 hr2, hl, he1, he2⟩
    · have e0 : ((m.length : Int) == 0) = false := beq_eq_false_iff_ne.2 (by omega)
      by_cases g1' : n ≤ 2097152
      · have d1 : decide (n ≤ 2097152) = true := by simpa using g1'
        by_cases g2' : -2097152 ≤ n
        · have d2 : decide (-2097152 ≤ n) = true := by simpa using g2'
          have HR : Hid (shiftS ⟨neg, m, e⟩ n = fitS neg (val BB m) (e + n)) := by
            unfold Hid shiftS
            rw [if_neg (by simp [hM]), if_neg hz, if_neg (by omega)]
          clear k0 k1 k2 k3
          go_wp2_with (go_at_call 65; (with_reducible refine (must_yes _ _).mono ?_); rintro e w' ⟨rfl, rfl⟩)
          refine (fit_any _ _ _ _ _ _ _ hr2 hl hC (by omega) (by omega) (by omega) HT2.out).mono ?_
          rintro e1 w3 ⟨hb3, ⟨z0, v, rfl, hv⟩ | ⟨z0, zz, rfl⟩⟩
          · obtain ⟨A', n', c', rfl, hv1, hv2, hv3⟩ := hv
            have hb23 := hb2.trans (hb3.mono (by have := hb2.size; simp at this; simp; omega))
            clear hcc hff
            obtain ⟨hcc, hff⟩ := bcell hb23
            obtain ⟨s1, s2, q0, q1, q2⟩ := store_dy (v0 := .bool (fitS neg (val BB m) (e + n)).1.neg) (v1 := .slice A' n' c') (v2 := .int .i64 (fitS neg (val BB m) (e + n)).1.e) rfl hb23
            have S2 := hide s2
            clear s2 hb3 hb23 hb2
            go_wp2
            refine bodyPost_ret (v := .agg #[.bool (fitS neg (val BB m) (e + n)).1.neg, .slice A' n' c', .int .i64 (fitS neg (val BB m) (e + n)).1.e]) (by simp [results, Tryd.results74, go_sem, q0, q1, q2]) rfl ⟨S2.out, .inl ?_⟩
            rw [HR.out]
            exact ⟨z0, _, rfl, _, _, _, rfl, s1 hv1, hv2, hv3⟩
          · refine ⟨rfl, ?_, .inr ?_⟩
            · exact (below_box hb2).trans (hb3.mono (by have := hb2.size; simp at this; omega))
            · rw [HR.out]
              exact ⟨z0, zz, rfl⟩
        · have d2 : decide (-2097152 ≤ n) = false := by simpa using g2'
          go_wp2_with (go_at_call 65; first | ((with_reducible refine (must_yes _ _).mono ?_); rintro e w' ⟨rfl, rfl⟩) | ((with_reducible refine (must_no _ _).mono ?_); rintro e w' ⟨rfl, rfl⟩))
          refine ⟨rfl, below_box hb2, .inr ?_⟩
          unfold shiftS
          rw [if_neg (by simp [hM]), if_neg hz, if_pos (by omega)]
          exact ⟨by decide, rfl, rfl⟩
      · have d1 : decide (n ≤ 2097152) = false := by simpa using g1'
        go_wp2_with (go_at_call 65; first | ((with_reducible refine (must_yes _ _).mono ?_); rintro e w' ⟨rfl, rfl⟩) | ((with_reducible refine (must_no _ _).mono ?_); rintro e w' ⟨rfl, rfl⟩))
        refine ⟨rfl, below_box hb2, .inr ?_⟩
        unfold shiftS
        rw [if_neg (by simp [hM]), if_neg hz, if_pos (by omega)]
        exact ⟨by decide, rfl, rfl⟩
  · have hM' : mayD ⟨neg, m, e⟩ = false := by simpa using hM
    clear hM
    go_enter Tryd.func74, Tryd.ntmps74
    go_wp2_with fail
    refine (mayD_any _ _ _ hd1).mono ?_
    rw [hM']
    rintro e1 w2 ⟨rfl, hb2⟩
    go_wp2_with (go_at_call 65; (with_reducible refine (must_no _ _).mono ?_); rintro e w' ⟨rfl, rfl⟩)
    refine ⟨rfl, below_box hb2, .inr ?_⟩
    unfold shiftS
    rw [if_pos hM']
    exact ⟨by decide, rfl, rfl⟩

/-- A function with a body is entered. -/
theorem enters {f : FuncId} {fn : Func} {c : Code} (hf : Tryd.prog.funcs[f]? = some fn) (hname : (fn.name == "runtime.NumGoroutine") = false) (hb : fn.body = some c) (args : Array Value) (w : World) :
    (callFunc f args).run Tryd.prog w = .ok (.enter f args) w := by
  have h1 : fn.name ≠ "runtime.NumGoroutine" := by simpa using hname
  simp [callFunc, hf, h1, hb, mark]

set_option maxRecDepth 100000 in
set_option maxHeartbeats 1000000 in
theorem shift_any (v : Value) (d : Dy) (n : Int) (w : World) (h : RdD w v d) (hT : TabAt w) :
    Calls Tryd.prog 23 #[v, .int .i64 n] w (FacePost w (shiftS d n)) := by
  have hmf : ∀ (fn : Fn) (first cap : Array Value) (w : World), (Instr.makeFunc fn first cap).run Tryd.prog w = .ok (.func fn first cap) w := fun _ _ _ _ => rfl
  obtain ⟨A, n', c, rfl, hr, hl, he1, he2⟩ := h
  have hlen := hr.len
  subst hlen
  go_enter Tryd.func23, Tryd.ntmps23
  go_wp2_with fail
  refine (face_any 74 _ (shiftS d n) _ (enters Tryd.func74 (by kernel_rfl) rfl) ?_).mono ?_
  · intro W hW
    have hb : Below w.heap.size w W := (by go_grown : Below w.heap.size w (((w.alloc (.cells #[.bool d.neg, .slice A d.m.length c, .int .i64 d.e] 24)).alloc (.cells #[.int .i64 n] 3)).alloc (.cells #[.bool false, .slice none 0 0, .int .i64 0] 24))).trans (hW.mono (by simp <;> omega))
    have k0 := (hW.cell (p := ⟨w.heap.size, 0, none⟩) (by simp <;> omega))
    have k1 := (hW.cell (p := ⟨w.heap.size, 1, none⟩) (by simp <;> omega))
    have k2 := (hW.cell (p := ⟨w.heap.size, 2, none⟩) (by simp <;> omega))
    have k3 := (hW.cell (p := ⟨w.heap.size + 1, 0, none⟩) (by simp <;> omega))
    exact shift1_any _ _ d n A c W (k0.trans (by simp [go_sem])) (k1.trans (by simp [go_sem])) (k2.trans (by simp [go_sem])) (k3.trans (by simp [go_sem])) (hr.below hb) hl he1 he2 (hT.below hb)
  rintro e1 w2 ⟨hb2, v, rfl, hv⟩
  obtain ⟨A', n', c', rfl, hv1, hv2, hv3⟩ := hv
  obtain ⟨hcc, hff⟩ := bcell hb2
  obtain ⟨s1, s2, q0, q1, q2⟩ := store_dy (N := w.heap.size + 1 + 1) (v0 := .bool (shiftS d n).1.neg) (v1 := .slice A' n' c') (v2 := .int .i64 (shiftS d n).1.e) (by simp) hb2
  have S2 := hide s2
  clear s2 hb2
  go_wp2
  refine bodyPost_ret (v := .tuple #[.agg #[.bool (shiftS d n).1.neg, .slice A' n' c', .int .i64 (shiftS d n).1.e], .int .i64 (shiftS d n).2]) (by simp [results, Tryd.results23, go_sem, q0, q1, q2]) rfl ⟨?_, _, rfl, _, _, _, rfl, s1 hv1, hv2, hv3⟩
  exact (by go_grown : Below w.heap.size w ((w.alloc (.cells #[.bool d.neg, .slice A d.m.length c, .int .i64 d.e] 24)).alloc (.cells #[.int .i64 n] 3))).trans (S2.out.mono (by simp <;> omega))
end Go.Proofs.YtaifjldpjkabjaaDoor
