/- Contracts of package round: what goes up, the face. Printed by wip/mk_RnA.py. -/
import Derived.Test.YteodljieiloebaaDoorDyBx
namespace Go.Proofs.YteodljieiloebaaDoor
open Go.RowKit Pl
def failDR (k : Int) : List PanicEntry := [{ v := .iface 98 (.agg #[.int .i64 k]), recovered := false }]

theorem must_yesR (k : Int) (w : World) : Calls Tryd.prog 65 #[.bool true, .int .i64 k] w fun e w' => e = .returned (.tuple #[]) ∧ w = w' := by
  go_enter Tryd.func65, Tryd.ntmps65
  go_wp2
  go_end0
  exact ⟨rfl, rfl⟩
theorem must_noR (k : Int) (w : World) : Calls Tryd.prog 65 #[.bool false, .int .i64 k] w fun e w' => e = .panicked (failDR k) ∧ w = w' := by
  go_enter Tryd.func65, Tryd.ntmps65
  go_wp2
  exact ⟨rfl, rfl, rfl⟩


def FitPostR (w : World) (r : Dy × Int) (e : Ending) (w' : World) : Prop :=
  Below w.heap.size w w' ∧ ((r.2 = 0 ∧ ∃ v, e = .returned v ∧ RdD w' v r.1) ∨ (r.2 ≠ 0 ∧ r.1 = Dy.zero ∧ e = .panicked (failDR r.2)))


theorem ta_nilR (w : World) : (Instr.typeAssert .nilIface 20 98 true).run Tryd.prog w = .ok (.tuple #[.agg #[.int .i64 0], .bool false]) w := by kernel_rfl
theorem ta_failR (k : Int) (w : World) : (Instr.typeAssert (.iface 98 (.agg #[.int .i64 k])) 20 98 true).run Tryd.prog w = .ok (.tuple #[.agg #[.int .i64 k], .bool true]) w := by kernel_rfl

set_option maxRecDepth 100000 in
set_option maxHeartbeats 1000000 in
/-- The face's deferred closure behind a return. -/
theorem face1_idleR (p q : Addr) (w : World) :
    CallsD Tryd.prog 95 #[.pointer (some p), .pointer (some q)] .returning w fun e u' w' => e = .returned (.tuple #[]) ∧ u' = .returning ∧ Below w.heap.size w w' := by
  refine callsD_of_wpS Tryd.func95 rfl fun c₀ cs hu => ?_
  apply wpS_seq
  apply wpS_region
  simp [wpOpsS, go_sem, recoverD, hu, Tryd.ntmps95, Exit.thenS, ta_nilR]
  refine wpS_of_wp ?_
  go_wp2
  have hbel : Below w.heap.size w (w.alloc (.cells #[.int .i64 0] 98)) := by go_grown
  cases c₀
  simp_all [bodyPostS, results, Tryd.results95]


set_option maxRecDepth 100000 in
set_option maxHeartbeats 1000000 in
/-- The face's deferred closure behind a panic of this package. -/
theorem face1_caughtR (g1 g2 : Nat) (k : Int) (c0 c1 c2 c3 : Value) (w : World) (h0 : w.cell? ⟨g1, 0, none⟩ = some c0) (h1 : w.cell? ⟨g1, 1, none⟩ = some c1) (h2 : w.cell? ⟨g1, 2, none⟩ = some c2) (h3 : w.cell? ⟨g2, 0, none⟩ = some c3)
    (f0 : w.frozen? ⟨g1, 0, none⟩ = false) (f1 : w.frozen? ⟨g1, 1, none⟩ = false) (f2 : w.frozen? ⟨g1, 2, none⟩ = false) (f3 : w.frozen? ⟨g2, 0, none⟩ = false) (hne : g1 ≠ g2) :
    CallsD Tryd.prog 95 #[.pointer (some ⟨g1, 0, none⟩), .pointer (some ⟨g2, 0, none⟩)] (.panicking (failDR k)) w fun e u' w' =>
      e = .returned (.tuple #[]) ∧ u' = .panicking [{ v := .iface 98 (.agg #[.int .i64 k]), recovered := true }] ∧ (∀ B, B ≤ w.heap.size → B ≤ g1 → B ≤ g2 → Below B w w') ∧
        w'.cell? ⟨g1, 0, none⟩ = some (.bool false) ∧ w'.cell? ⟨g1, 1, none⟩ = some (.slice none 0 0) ∧ w'.cell? ⟨g1, 2, none⟩ = some (.int .i64 0) ∧ w'.cell? ⟨g2, 0, none⟩ = some (.int .i64 k) := by
  refine callsD_of_wpS Tryd.func95 rfl fun c₀ cs hu => ?_
  unfold failDR at hu
  apply wpS_seq
  apply wpS_region
  simp [wpOpsS, go_sem, recoverD, hu, Tryd.ntmps95, Exit.thenS, ta_failR]
  refine wpS_of_wp ?_
  simp [Array.replicate]
  have k0 := cell_keep_alloc h0 (.cells #[.int .i64 k] 98)
  have k1 := cell_keep_alloc h1 (.cells #[.int .i64 k] 98)
  have k2 := cell_keep_alloc h2 (.cells #[.int .i64 k] 98)
  have k3 := cell_keep_alloc h3 (.cells #[.int .i64 k] 98)
  have l0 := frozen_keep_alloc h0 f0 (.cells #[.int .i64 k] 98)
  have l1 := frozen_keep_alloc h1 f1 (.cells #[.int .i64 k] 98)
  have l2 := frozen_keep_alloc h2 f2 (.cells #[.int .i64 k] 98)
  have l3 := frozen_keep_alloc h3 f3 (.cells #[.int .i64 k] 98)
  have lt1 := lt_of_cell h0
  have lt2 := lt_of_cell h3
  have n1 : ¬ w.heap.size = g1 := by omega
  have n2 : ¬ g1 = w.heap.size := by omega
  have n3 : ¬ w.heap.size = g2 := by omega
  have n4 : ¬ g2 = w.heap.size := by omega
  have n5 : ¬ g1 = g2 := hne
  have n6 : ¬ g2 = g1 := fun e => hne e.symm
  go_wp2
  go_region
  refine ⟨rfl, _, rfl, .tuple #[], by simp [results, Tryd.results95], rfl, rfl, ?_, ?_, ?_, ?_, ?_⟩
  · intro B b1 b2 b3
    exact ((((((Below.refl B w).setCell b2 _).setCell b2 _).setCell b2 _).setCell b3 _).alloc (by simpa [World.setCell] using b1) _).drew
  · exact cell_keep_alloc (chain_cells h0 h1 h2 h3 hne).1 _
  · exact cell_keep_alloc (chain_cells h0 h1 h2 h3 hne).2.1 _
  · exact cell_keep_alloc (chain_cells h0 h1 h2 h3 hne).2.2.1 _
  · exact cell_keep_alloc (chain_cells h0 h1 h2 h3 hne).2.2.2 _

set_option maxRecDepth 100000 in
set_option maxHeartbeats 1000000 in
theorem face_anyR (g : FuncId) (cap : Array Value) (r : Dy × Int) (w : World) (hen : ∀ args W, (callFunc g args).run Tryd.prog W = .ok (.enter g args) W)
    (hdo : ∀ W, Below w.heap.size w W → Calls Tryd.prog g cap W (FitPostR W r)) :
    Calls Tryd.prog 62 #[.func (.func g) #[] cap] w (FacePost w r) := by
  have hmf : ∀ (fn : Fn) (first cap : Array Value) (w : World), (Instr.makeFunc fn first cap).run Tryd.prog w = .ok (.func fn first cap) w := fun _ _ _ _ => rfl
  have HD := hide hdo
  clear hdo
  go_enter_defers Tryd.func62, Tryd.ntmps62
  go_wp2_with fail
  refine (HD.out _ ?_).mono ?_
  · go_grown
  rintro e w2 ⟨hb2, ⟨h0, v, rfl, hv⟩ | ⟨h0, hz, rfl⟩⟩
  · obtain ⟨A', n', c', rfl, hv1, hv2, hv3⟩ := hv
    obtain ⟨hcc, hff⟩ := bcell hb2
    have hsz : w.heap.size + 2 ≤ w2.heap.size := by have := hb2.size; simp at this; omega
    have k0 : w2.cell? ⟨w.heap.size, 0, none⟩ = some (.bool false) := by rw [hcc _ _ (by simp <;> omega)]; simp [go_sem]
    have k1 : w2.cell? ⟨w.heap.size, 1, none⟩ = some (.slice none 0 0) := by rw [hcc _ _ (by simp <;> omega)]; simp [go_sem]
    have k2 : w2.cell? ⟨w.heap.size, 2, none⟩ = some (.int .i64 0) := by rw [hcc _ _ (by simp <;> omega)]; simp [go_sem]
    have k3 : w2.cell? ⟨w.heap.size + 1, 0, none⟩ = some (.int .i64 0) := by rw [hcc _ _ (by simp <;> omega)]; simp [go_sem]
    obtain ⟨q0, q1, q2, q3⟩ := chain_cells (a0 := .bool r.1.neg) (a1 := .slice A' n' c') (a2 := .int .i64 r.1.e) (a3 := .int .i64 0) k0 k1 k2 k3 (by omega)
    have HB2 := hide hb2
    have Q0 := hide q0
    have Q1 := hide q1
    have Q2 := hide q2
    have Q3 := hide q3
    clear hb2 q0 q1 q2 q3
    go_wp2
    refine leaves_cons (f := 95) (args := #[.pointer (some ⟨w.heap.size, 0, none⟩), .pointer (some ⟨w.heap.size + 1, 0, none⟩)]) (by simp) (by simp [go_sem]) ?_
    refine (face1_idleR _ _ _).mono ?_
    rintro e u' w3 ⟨rfl, rfl, hb3⟩
    have hs : w2.heap.size ≤ w3.heap.size := by have := hb3.size; simpa [World.setCell] using this
    have p0 := (hb3.cell (p := ⟨w.heap.size, 0, none⟩) (by simp [World.setCell] <;> omega)).trans Q0.out
    have p1 := (hb3.cell (p := ⟨w.heap.size, 1, none⟩) (by simp [World.setCell] <;> omega)).trans Q1.out
    have p2 := (hb3.cell (p := ⟨w.heap.size, 2, none⟩) (by simp [World.setCell] <;> omega)).trans Q2.out
    have p3 := (hb3.cell (p := ⟨w.heap.size + 1, 0, none⟩) (by simp [World.setCell] <;> omega)).trans Q3.out
    have hbel : Below w.heap.size w w3 := by
      have t1 : Below w.heap.size w w2 := (((Below.refl _ _).alloc (Nat.le_refl _) _).alloc (by simp) _).trans (HB2.out.mono (by simp <;> omega))
      exact ((((t1.setCell (Nat.le_refl _) _).setCell (Nat.le_refl _) _).setCell (Nat.le_refl _) _).setCell (Nat.le_succ _) _).trans (hb3.mono (by simp [World.setCell] <;> omega))
    have fin : FacePost w r (.returned (.tuple #[.agg #[.bool r.1.neg, .slice A' n' c', .int .i64 r.1.e], .int .i64 0])) w3 := by
      have hv4 : RdN .u64 w3 A' n' c' r.1.m := by
        refine hv1.keepU hs fun b o x hx => ?_
        have hlt := lt_of_cell hx
        have n1 : b ≠ w.heap.size := by
          rintro rfl
          rw [hcc _ _ (by simp <;> omega)] at hx
          exact box3_not rfl hx
        have n2 : b ≠ w.heap.size + 1 := by
          rintro rfl
          rw [hcc _ _ (by simp <;> omega)] at hx
          exact box1_not hx
        rw [hb3.cell (p := ⟨b, o, none⟩) (by simpa [World.setCell] using hlt)]
        rw [World.cell?_setCell_other _ _ _ _ (by intro e; injection e with e; omega), World.cell?_setCell_other _ _ _ _ (by intro e; injection e with e; omega), World.cell?_setCell_other _ _ _ _ (by intro e; injection e with e; omega), World.cell?_setCell_other _ _ _ _ (by intro e; injection e with e; omega)]
        exact hx
      exact ⟨hbel, _, by rw [h0], A', n', c', rfl, hv4, hv2, hv3⟩
    simp [Leaves, settle, results, Tryd.results62, go_sem, p0, p1, p2, p3]
    exact fin
  · obtain ⟨hcc, hff⟩ := bcell hb2
    have hsz : w.heap.size + 2 ≤ w2.heap.size := by have := hb2.size; simp at this; omega
    have k0 : w2.cell? ⟨w.heap.size, 0, none⟩ = some (.bool false) := by rw [hcc _ _ (by simp <;> omega)]; simp [go_sem]
    have k1 : w2.cell? ⟨w.heap.size, 1, none⟩ = some (.slice none 0 0) := by rw [hcc _ _ (by simp <;> omega)]; simp [go_sem]
    have k2 : w2.cell? ⟨w.heap.size, 2, none⟩ = some (.int .i64 0) := by rw [hcc _ _ (by simp <;> omega)]; simp [go_sem]
    have k3 : w2.cell? ⟨w.heap.size + 1, 0, none⟩ = some (.int .i64 0) := by rw [hcc _ _ (by simp <;> omega)]; simp [go_sem]
    have f0 : w2.frozen? ⟨w.heap.size, 0, none⟩ = false := by rw [hff _ _ (by simp <;> omega)]; simp [go_sem]
    have f1 : w2.frozen? ⟨w.heap.size, 1, none⟩ = false := by rw [hff _ _ (by simp <;> omega)]; simp [go_sem]
    have f2 : w2.frozen? ⟨w.heap.size, 2, none⟩ = false := by rw [hff _ _ (by simp <;> omega)]; simp [go_sem]
    have f3 : w2.frozen? ⟨w.heap.size + 1, 0, none⟩ = false := by rw [hff _ _ (by simp <;> omega)]; simp [go_sem]
    refine leaves_cons (f := 95) (args := #[.pointer (some ⟨w.heap.size, 0, none⟩), .pointer (some ⟨w.heap.size + 1, 0, none⟩)]) (by simp) (by simp [go_sem]) ?_
    refine (face1_caughtR w.heap.size (w.heap.size + 1) r.2 _ _ _ _ w2 k0 k1 k2 k3 f0 f1 f2 f3 (by omega)).mono ?_
    rintro e u' w3 ⟨rfl, rfl, hb3, p0, p1, p2, p3⟩
    have hbel : Below w.heap.size w w3 := by
      have t1 : Below w.heap.size w w2 := (((Below.refl _ _).alloc (Nat.le_refl _) _).alloc (by simp) _).trans (hb2.mono (by simp <;> omega))
      exact t1.trans (hb3 _ (by omega) (Nat.le_refl _) (by omega))
    have fin : FacePost w r (.returned (.tuple #[.agg #[.bool false, .slice none 0 0, .int .i64 0], .int .i64 r.2])) w3 :=
      ⟨hbel, _, rfl, by rw [hz]; exact RdD.zero w3⟩
    simp [Leaves, settle, results, Tryd.results62, go_sem, p0, p1, p2, p3]
    exact fin
end Go.Proofs.YteodljieiloebaaDoor
