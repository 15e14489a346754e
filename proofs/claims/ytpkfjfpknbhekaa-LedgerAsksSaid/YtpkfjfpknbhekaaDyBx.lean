/- Contracts of package dyad, part B: Sign, fit, the face. Contracts of package dyad, part C: the face, fit. Contracts of package dyad, part E: Shift. -/
import Derived.Test.YtpkfjfpknbhekaaDyAx
import Derived.RegionTactic
namespace Go.Proofs.Ytpkfjfpknbhekaa
open Go.RowKit Pl

/-- dyad.Sign. -/
def signD (d : Dy) : Int := if !mayD d || decide (d.m.length = 0) then 0 else if d.neg then -1 else 1

set_option maxRecDepth 100000 in
set_option maxHeartbeats 1000000 in
theorem signD_any (v : Value) (d : Dy) (w : World) (h : RdD w v d) :
    Calls Try.prog 88 #[v] w fun e w' => e = .returned (.int .i64 (signD d)) ∧ Below w.heap.size w w' := by
  have hd := h
  obtain ⟨A, n, c, rfl, hr, hl, he1, he2⟩ := h
  obtain ⟨neg, m, e⟩ := d
  simp only at hr hl he1 he2 ⊢
  have hlen := hr.len
  have hd1 := hd.below ((Below.refl w.heap.size w).alloc (Nat.le_refl _) (.cells #[.bool neg, .slice A n c, .int .i64 e] 24))
  by_cases hM : mayD ⟨neg, m, e⟩ = true
  · by_cases h0 : n = 0
    · have e0 : ((n : Int) == 0) = true := by simp [h0]
      have hres : Hid (signD ⟨neg, m, e⟩ = 0) := by unfold Hid signD; simp [hM, hlen, h0]
      clear h0
      go_enter Try.func88, Try.ntmps88
      go_wp2_with (go_at_call 32; refine (mayD_any _ _ _ hd1).mono ?_; rw [hM]; rintro e w2 ⟨rfl, hb2⟩; obtain ⟨hcc, hff⟩ := bcell hb2)
      go_ret
      exact ⟨ret_int hres.out.symm, below_box hb2⟩
    · have e0 : ((n : Int) == 0) = false := beq_eq_false_iff_ne.2 (by omega)
      have hres : Hid (signD ⟨neg, m, e⟩ = if neg then -1 else 1) := by unfold Hid signD; simp [hM, hlen, h0]
      clear h0
      cases neg
      · go_enter Try.func88, Try.ntmps88
        go_wp2_with (go_at_call 32; refine (mayD_any _ _ _ hd1).mono ?_; rw [hM]; rintro e w2 ⟨rfl, hb2⟩; obtain ⟨hcc, hff⟩ := bcell hb2)
        go_ret
        exact ⟨ret_int hres.out.symm, below_box hb2⟩
      · go_enter Try.func88, Try.ntmps88
        go_wp2_with (go_at_call 32; refine (mayD_any _ _ _ hd1).mono ?_; rw [hM]; rintro e w2 ⟨rfl, hb2⟩; obtain ⟨hcc, hff⟩ := bcell hb2)
        go_ret
        exact ⟨ret_int hres.out.symm, below_box hb2⟩
  · have hM' : mayD ⟨neg, m, e⟩ = false := by simpa using hM
    have hres : Hid (signD ⟨neg, m, e⟩ = 0) := by unfold Hid signD; simp [hM']
    clear hM
    go_enter Try.func88, Try.ntmps88
    go_wp2_with (go_at_call 32; refine (mayD_any _ _ _ hd1).mono ?_; rw [hM']; rintro e w2 ⟨rfl, hb2⟩; obtain ⟨hcc, hff⟩ := bcell hb2)
    go_ret
    exact ⟨ret_int hres.out.symm, below_box hb2⟩

end Go.Proofs.Ytpkfjfpknbhekaa
namespace Go.Proofs.Ytpkfjfpknbhekaa
open Go.RowKit Pl

/-- What a face gives: the Dyad, or the zero one, and the error. -/
def FacePost (w : World) (r : Dy × Int) (e : Ending) (w' : World) : Prop :=
  Below w.heap.size w w' ∧ ∃ v, e = .returned (.tuple #[v, .int .i64 r.2]) ∧ RdD w' v r.1

end Go.Proofs.Ytpkfjfpknbhekaa
namespace Go.Proofs.Ytpkfjfpknbhekaa
open Go.RowKit Pl

theorem mayN_can {xs : List Nat} (h : mayN xs = true) : Cnl xs ∧ xs.length ≤ 64 := by
  unfold mayN at h
  rcases Nat.eq_zero_or_pos xs.length with h0 | h0
  · rw [List.length_eq_zero_iff.1 h0]
    exact ⟨by simp [Cnl], by simp⟩
  · have h1 : decide (xs.length = 0) = false := by rw [decide_eq_false_iff_not]; omega
    rw [h1, Bool.false_or, Bool.and_eq_true] at h
    obtain ⟨h2, h3⟩ := h
    refine ⟨?_, by simpa using h2⟩
    intro hl
    rw [List.getLast?_eq_getElem?] at hl
    have h4 : nth xs (xs.length - 1) = 0 := by simp [nth, List.getD_eq_getElem?_getD, hl]
    rw [h4] at h3
    simp at h3
theorem mayD_limbs {d : Dy} (h : mayD d = true) : Cnl d.m ∧ d.m.length ≤ 64 ∧ -1048576 ≤ d.e ∧ d.e ≤ 1048576 := by
  unfold mayD at h
  split at h
  · rename_i h0
    rw [List.length_eq_zero_iff.1 h0]
    simp only [Bool.and_eq_true, decide_eq_true_eq] at h
    exact ⟨by simp [Cnl], by simp, by omega, by omega⟩
  · simp only [Bool.and_eq_true, decide_eq_true_eq] at h
    obtain ⟨⟨⟨h1, _⟩, h3⟩, h4⟩ := h
    exact ⟨(mayN_can h1).1, (mayN_can h1).2, h3, h4⟩

end Go.Proofs.Ytpkfjfpknbhekaa
