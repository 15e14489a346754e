/- Contracts of package dyad, part B: Sign, fit, the face. -/
import Derived.Test.YtaifjldpjkabjaaDoorDyA
import Derived.RegionTactic
namespace Go.Proofs.YtaifjldpjkabjaaDoor
open Go.RowKit Pl

/-- dyad.Sign. -/
def signD (d : Dy) : Int := if !mayD d || decide (d.m.length = 0) then 0 else if d.neg then -1 else 1

set_option maxRecDepth 100000 in
set_option maxHeartbeats 1000000 in
theorem signD_any (v : Value) (d : Dy) (w : World) (h : RdD w v d) :
    Calls Tryd.prog 35 #[v] w fun e w' => e = .returned (.int .i64 (signD d)) ∧ Below w.heap.size w w' := by
  have hd := h
  obtain ⟨A, n, c, rfl, hr, hl, he1, he2⟩ := h
  obtain ⟨neg, m, e⟩ := d
  simp only at hr hl he1 he2 ⊢
  have hlen := hr.len
  have hd1 := hd.below ((Below.refl w.heap.size w).alloc (Nat.le_refl _) (.cells #[.bool neg, .slice A n c, .int .i64 e] 24))
  by_cases hM : mayD ⟨neg, m, e⟩ = true
  · by_cases h0 : n = 0
    · have e0 : ((n : Int) == 0) = true := by simp [h0]
      have hres : Hid (signD ⟨neg, m, e⟩ = 0) := by unfold Hid signD; simp [hM, hlen, h0]
      clear h0
      go_enter Tryd.func35, Tryd.ntmps35
      go_wp2_with (go_at_call 31; refine (mayD_any _ _ _ hd1).mono ?_; rw [hM]; rintro e w2 ⟨rfl, hb2⟩; obtain ⟨hcc, hff⟩ := bcell hb2)
      go_ret
      exact ⟨ret_int hres.out.symm, below_box hb2⟩
    · have e0 : ((n : Int) == 0) = false := beq_eq_false_iff_ne.2 (by omega)
      have hres : Hid (signD ⟨neg, m, e⟩ = if neg then -1 else 1) := by unfold Hid signD; simp [hM, hlen, h0]
      clear h0
      cases neg
      · go_enter Tryd.func35, Tryd.ntmps35
        go_wp2_with (go_at_call 31; refine (mayD_any _ _ _ hd1).mono ?_; rw [hM]; rintro e w2 ⟨rfl, hb2⟩; obtain ⟨hcc, hff⟩ := bcell hb2)
        go_ret
        exact ⟨ret_int hres.out.symm, below_box hb2⟩
      · go_enter Tryd.func35, Tryd.ntmps35
        go_wp2_with (go_at_call 31; refine (mayD_any _ _ _ hd1).mono ?_; rw [hM]; rintro e w2 ⟨rfl, hb2⟩; obtain ⟨hcc, hff⟩ := bcell hb2)
        go_ret
        exact ⟨ret_int hres.out.symm, below_box hb2⟩
  · have hM' : mayD ⟨neg, m, e⟩ = false := by simpa using hM
    have hres : Hid (signD ⟨neg, m, e⟩ = 0) := by unfold Hid signD; simp [hM']
    clear hM
    go_enter Tryd.func35, Tryd.ntmps35
    go_wp2_with (go_at_call 31; refine (mayD_any _ _ _ hd1).mono ?_; rw [hM']; rintro e w2 ⟨rfl, hb2⟩; obtain ⟨hcc, hff⟩ := bcell hb2)
    go_ret
    exact ⟨ret_int hres.out.symm, below_box hb2⟩

/-- dyad.fit: of a sign, a natural, an exponent: the Dyad and 0, or the zero one and an error. -/
def fitS (neg : Bool) (n : Nat) (e : Int) : Dy × Int :=
  if n = 0 then (Dy.zero, 0)
  else if ¬ (limbs BB (n / 2 ^ tz n)).length ≤ 64 then (Dy.zero, 2)
  else if ¬ (e ≤ 1048576 ∧ -1048576 - (tz n : Int) ≤ e) then (Dy.zero, 3)
  else if ¬ e + (tz n : Int) ≤ 1048576 then (Dy.zero, 3)
  else (⟨neg, limbs BB (n / 2 ^ tz n), e + (tz n : Int)⟩, 0)
/-- How such a call ends. -/
def FitPost (w : World) (r : Dy × Int) (e : Ending) (w' : World) : Prop :=
  Below w.heap.size w w' ∧ ((r.2 = 0 ∧ ∃ v, e = .returned v ∧ RdD w' v r.1) ∨ (r.2 ≠ 0 ∧ r.1 = Dy.zero ∧ e = .panicked (failD r.2)))

theorem frozen_keep_alloc {w : World} {p : Addr} {v : Value} (h : w.cell? p = some v) (hf : w.frozen? p = false) (o : Obj) : (w.alloc o).frozen? p = false := by
  have hlt : p.block < w.heap.size := by
    rcases Nat.lt_or_ge p.block w.heap.size with h2 | h2
    · exact h2
    · simp [World.cell?, Array.getElem?_eq_none h2] at h
  rw [((Below.refl w.heap.size w).alloc (Nat.le_refl _) o).frozen hlt]
  exact hf
theorem lt_of_cell {w : World} {g o : Nat} {v : Value} (h : w.cell? ⟨g, o, none⟩ = some v) : g < w.heap.size := by
  rcases Nat.lt_or_ge g w.heap.size with h2 | h2
  · exact h2
  · simp [World.cell?, Array.getElem?_eq_none h2] at h
theorem ta_nil (w : World) : (Instr.typeAssert .nilIface 20 92 true).run Tryd.prog w = .ok (.tuple #[.agg #[.int .i64 0], .bool false]) w := by kernel_rfl
theorem ta_fail (k : Int) (w : World) : (Instr.typeAssert (.iface 92 (.agg #[.int .i64 k])) 20 92 true).run Tryd.prog w = .ok (.tuple #[.agg #[.int .i64 k], .bool true]) w := by kernel_rfl

set_option maxRecDepth 100000 in
set_option maxHeartbeats 1000000 in
/-- The face's deferred closure behind a return. -/
theorem face1_idle (p q : Addr) (w : World) :
    CallsD Tryd.prog 104 #[.pointer (some p), .pointer (some q)] .returning w fun e u' w' => e = .returned (.tuple #[]) ∧ u' = .returning ∧ Below w.heap.size w w' := by
  refine callsD_of_wpS Tryd.func104 rfl fun c₀ cs hu => ?_
  apply wpS_seq
  apply wpS_region
  simp [wpOpsS, go_sem, recoverD, hu, Tryd.ntmps104, Exit.thenS, ta_nil]
  refine wpS_of_wp ?_
  go_wp2
  have hbel : Below w.heap.size w (w.alloc (.cells #[.int .i64 0] 92)) := by go_grown
  cases c₀
  simp_all [bodyPostS, results, Tryd.results104]

set_option linter.unusedSimpArgs false in
/-- Four stores, and what lies there. -/
theorem chain_cells {g1 g2 : Nat} {c0 c1 c2 c3 a0 a1 a2 a3 : Value} {w : World} (h0 : w.cell? ⟨g1, 0, none⟩ = some c0) (h1 : w.cell? ⟨g1, 1, none⟩ = some c1) (h2 : w.cell? ⟨g1, 2, none⟩ = some c2) (h3 : w.cell? ⟨g2, 0, none⟩ = some c3) (hne : g1 ≠ g2) :
    let W := (((w.setCell ⟨g1, 0, none⟩ a0).setCell ⟨g1, 1, none⟩ a1).setCell ⟨g1, 2, none⟩ a2).setCell ⟨g2, 0, none⟩ a3
    W.cell? ⟨g1, 0, none⟩ = some a0 ∧ W.cell? ⟨g1, 1, none⟩ = some a1 ∧ W.cell? ⟨g1, 2, none⟩ = some a2 ∧ W.cell? ⟨g2, 0, none⟩ = some a3 := by
  have n6 : ¬ g2 = g1 := fun e => hne e.symm
  refine ⟨?_, ?_, ?_, ?_⟩ <;> simp [go_sem, h0, h1, h2, h3, hne, n6]

set_option maxRecDepth 100000 in
set_option maxHeartbeats 1000000 in
/-- The face's deferred closure behind a panic of this package. -/
theorem face1_caught (g1 g2 : Nat) (k : Int) (c0 c1 c2 c3 : Value) (w : World) (h0 : w.cell? ⟨g1, 0, none⟩ = some c0) (h1 : w.cell? ⟨g1, 1, none⟩ = some c1) (h2 : w.cell? ⟨g1, 2, none⟩ = some c2) (h3 : w.cell? ⟨g2, 0, none⟩ = some c3)
    (f0 : w.frozen? ⟨g1, 0, none⟩ = false) (f1 : w.frozen? ⟨g1, 1, none⟩ = false) (f2 : w.frozen? ⟨g1, 2, none⟩ = false) (f3 : w.frozen? ⟨g2, 0, none⟩ = false) (hne : g1 ≠ g2) :
    CallsD Tryd.prog 104 #[.pointer (some ⟨g1, 0, none⟩), .pointer (some ⟨g2, 0, none⟩)] (.panicking (failD k)) w fun e u' w' =>
      e = .returned (.tuple #[]) ∧ u' = .panicking [{ v := .iface 92 (.agg #[.int .i64 k]), recovered := true }] ∧ (∀ B, B ≤ w.heap.size → B ≤ g1 → B ≤ g2 → Below B w w') ∧
        w'.cell? ⟨g1, 0, none⟩ = some (.bool false) ∧ w'.cell? ⟨g1, 1, none⟩ = some (.slice none 0 0) ∧ w'.cell? ⟨g1, 2, none⟩ = some (.int .i64 0) ∧ w'.cell? ⟨g2, 0, none⟩ = some (.int .i64 k) := by
  refine callsD_of_wpS Tryd.func104 rfl fun c₀ cs hu => ?_
  unfold failD at hu
  apply wpS_seq
  apply wpS_region
  simp [wpOpsS, go_sem, recoverD, hu, Tryd.ntmps104, Exit.thenS, ta_fail]
  refine wpS_of_wp ?_
  simp [Array.replicate]
  have k0 := cell_keep_alloc h0 (.cells #[.int .i64 k] 92)
  have k1 := cell_keep_alloc h1 (.cells #[.int .i64 k] 92)
  have k2 := cell_keep_alloc h2 (.cells #[.int .i64 k] 92)
  have k3 := cell_keep_alloc h3 (.cells #[.int .i64 k] 92)
  have l0 := frozen_keep_alloc h0 f0 (.cells #[.int .i64 k] 92)
  have l1 := frozen_keep_alloc h1 f1 (.cells #[.int .i64 k] 92)
  have l2 := frozen_keep_alloc h2 f2 (.cells #[.int .i64 k] 92)
  have l3 := frozen_keep_alloc h3 f3 (.cells #[.int .i64 k] 92)
  have lt1 := lt_of_cell h0
  have lt2 := lt_of_cell h3
  have n1 : ¬ w.heap.size = g1 := by omega
  have n2 : ¬ g1 = w.heap.size := by omega
  have n3 : ¬ w.heap.size = g2 := by omega
  have n4 : ¬ g2 = w.heap.size := by omega
  have n5 : ¬ g1 = g2 := hne
  have n6 : ¬ g2 = g1 := fun e => hne e.symm
  go_wp2
  go_region
  refine ⟨rfl, _, rfl, .tuple #[], by simp [results, Tryd.results104], rfl, rfl, ?_, ?_, ?_, ?_, ?_⟩
  · intro B b1 b2 b3
    exact ((((((Below.refl B w).setCell b2 _).setCell b2 _).setCell b2 _).setCell b3 _).alloc (by simpa [World.setCell] using b1) _).drew
  · exact cell_keep_alloc (chain_cells h0 h1 h2 h3 hne).1 _
  · exact cell_keep_alloc (chain_cells h0 h1 h2 h3 hne).2.1 _
  · exact cell_keep_alloc (chain_cells h0 h1 h2 h3 hne).2.2.1 _
  · exact cell_keep_alloc (chain_cells h0 h1 h2 h3 hne).2.2.2 _
end Go.Proofs.YtaifjldpjkabjaaDoor
