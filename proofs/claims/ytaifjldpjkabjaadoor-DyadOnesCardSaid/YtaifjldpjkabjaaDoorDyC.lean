/- Contracts of package dyad, part C: the face, fit. -/
import Derived.Test.YtaifjldpjkabjaaDoorDyB
namespace Go.Proofs.YtaifjldpjkabjaaDoor
open Go.RowKit Pl

/-- What a face gives: the Dyad, or the zero one, and the error. -/
def FacePost (w : World) (r : Dy × Int) (e : Ending) (w' : World) : Prop :=
  Below w.heap.size w w' ∧ ∃ v, e = .returned (.tuple #[v, .int .i64 r.2]) ∧ RdD w' v r.1

theorem box3_not {w : World} {o : Nat} {a : Bool} {e x : Int} {s : Value} {t t2 : TypeId} {v : Value} (hs : s = .slice none 0 0) (h : ((w.alloc (.cells #[.bool a, s, .int .i64 e] t)).alloc (.cells #[v] t2)).cell? ⟨w.heap.size, o, none⟩ = some (.int .u64 x)) : False := by
  subst hs
  have h1 : ((w.alloc (.cells #[.bool a, .slice none 0 0, .int .i64 e] t)).alloc (.cells #[v] t2)).cell? ⟨w.heap.size, o, none⟩ = (w.alloc (.cells #[.bool a, .slice none 0 0, .int .i64 e] t)).cell? ⟨w.heap.size, o, none⟩ :=
    World.cell?_alloc_lt _ _ _ (by simp)
  rw [h1, cell_of_row _ _ _ _ _ _ (heap_alloc_new w _)] at h
  rcases o with _ | _ | _ | o <;> simp at h
theorem box1_not {w : World} {o : Nat} {e x : Int} {ob : Obj} {t2 : TypeId} (h : ((w.alloc ob).alloc (.cells #[.int .i64 e] t2)).cell? ⟨w.heap.size + 1, o, none⟩ = some (.int .u64 x)) : False := by
  have h2 : w.heap.size + 1 = (w.alloc ob).heap.size := by simp
  rw [h2, cell_of_row _ _ _ _ _ _ (heap_alloc_new _ _)] at h
  rcases o with _ | o <;> simp at h

set_option maxRecDepth 100000 in
set_option maxHeartbeats 1000000 in
theorem face_any (g : FuncId) (cap : Array Value) (r : Dy × Int) (w : World) (hen : ∀ args W, (callFunc g args).run Tryd.prog W = .ok (.enter g args) W)
    (hdo : ∀ W, Below w.heap.size w W → Calls Tryd.prog g cap W (FitPost W r)) :
    Calls Tryd.prog 63 #[.func (.func g) #[] cap] w (FacePost w r) := by
  have hmf : ∀ (fn : Fn) (first cap : Array Value) (w : World), (Instr.makeFunc fn first cap).run Tryd.prog w = .ok (.func fn first cap) w := fun _ _ _ _ => rfl
  have HD := hide hdo
  clear hdo
  go_enter_defers Tryd.func63, Tryd.ntmps63
  go_wp2_with fail
  refine (HD.out _ ?_).mono ?_
  · go_grown
  rintro e w2 ⟨hb2, ⟨h0, v, rfl, hv⟩ | ⟨h0, hz, rfl⟩⟩
  · obtain ⟨A', n', c', rfl, hv1, hv2, hv3⟩ := hv
    obtain ⟨hcc, hff⟩ := bcell hb2
    have hsz : w.heap.size + 2 ≤ w2.heap.size := by have := hb2.size; simp at this; omega
    have k0 : w2.cell? ⟨w.heap.size, 0, none⟩ = some (.bool false) := by rw [hcc _ _ (by simp <;> omega)]; simp [go_sem]
    have k1 : w2.cell? ⟨w.heap.size, 1, none⟩ = some (.slice none 0 0) := by rw [hcc _ _ (by simp <;> omega)]; simp [go_sem]
    have k2 : w2.cell? ⟨w.heap.size, 2, none⟩ = some (.int .i64 0) := by rw [hcc _ _ (by simp <;> omega)]; simp [go_sem]
    have k3 : w2.cell? ⟨w.heap.size + 1, 0, none⟩ = some (.int .i64 0) := by rw [hcc _ _ (by simp <;> omega)]; simp [go_sem]
    obtain ⟨q0, q1, q2, q3⟩ := chain_cells (a0 := .bool r.1.neg) (a1 := .slice A' n' c') (a2 := .int .i64 r.1.e) (a3 := .int .i64 0) k0 k1 k2 k3 (by omega)
    have HB2 := hide hb2
    have Q0 := hide q0
    have Q1 := hide q1
    have Q2 := hide q2
    have Q3 := hide q3
    clear hb2 q0 q1 q2 q3
    go_wp2
    refine leaves_cons (f := 104) (args := #[.pointer (some ⟨w.heap.size, 0, none⟩), .pointer (some ⟨w.heap.size + 1, 0, none⟩)]) (by simp) (by simp [go_sem]) ?_
    refine (face1_idle _ _ _).mono ?_
    rintro e u' w3 ⟨rfl, rfl, hb3⟩
    have hs : w2.heap.size ≤ w3.heap.size := by have := hb3.size; simpa [World.setCell] using this
    have p0 := (hb3.cell (p := ⟨w.heap.size, 0, none⟩) (by simp [World.setCell] <;> omega)).trans Q0.out
    have p1 := (hb3.cell (p := ⟨w.heap.size, 1, none⟩) (by simp [World.setCell] <;> omega)).trans Q1.out
    have p2 := (hb3.cell (p := ⟨w.heap.size, 2, none⟩) (by simp [World.setCell] <;> omega)).trans Q2.out
    have p3 := (hb3.cell (p := ⟨w.heap.size + 1, 0, none⟩) (by simp [World.setCell] <;> omega)).trans Q3.out
    have hbel : Below w.heap.size w w3 := by
      have t1 : Below w.heap.size w w2 := (((Below.refl _ _).alloc (Nat.le_refl _) _).alloc (by simp) _).trans (HB2.out.mono (by simp <;> omega))
      exact ((((t1.setCell (Nat.le_refl _) _).setCell (Nat.le_refl _) _).setCell (Nat.le_refl _) _).setCell (Nat.le_succ _) _).trans (hb3.mono (by simp [World.setCell] <;> omega))
    have fin : FacePost w r (.returned (.tuple #[.agg #[.bool r.1.neg, .slice A' n' c', .int .i64 r.1.e], .int .i64 0])) w3 := by
      have hv4 : RdN .u64 w3 A' n' c' r.1.m := by
        refine hv1.keepU hs fun b o x hx => ?_
        have hlt := lt_of_cell hx
        have n1 : b ≠ w.heap.size := by
          rintro rfl
          rw [hcc _ _ (by simp <;> omega)] at hx
          exact box3_not rfl hx
        have n2 : b ≠ w.heap.size + 1 := by
          rintro rfl
          rw [hcc _ _ (by simp <;> omega)] at hx
          exact box1_not hx
        rw [hb3.cell (p := ⟨b, o, none⟩) (by simpa [World.setCell] using hlt)]
        rw [World.cell?_setCell_other _ _ _ _ (by intro e; injection e with e; omega), World.cell?_setCell_other _ _ _ _ (by intro e; injection e with e; omega), World.cell?_setCell_other _ _ _ _ (by intro e; injection e with e; omega), World.cell?_setCell_other _ _ _ _ (by intro e; injection e with e; omega)]
        exact hx
      exact ⟨hbel, _, by rw [h0], A', n', c', rfl, hv4, hv2, hv3⟩
    simp [Leaves, settle, results, Tryd.results63, go_sem, p0, p1, p2, p3]
    exact fin
  · obtain ⟨hcc, hff⟩ := bcell hb2
    have hsz : w.heap.size + 2 ≤ w2.heap.size := by have := hb2.size; simp at this; omega
    have k0 : w2.cell? ⟨w.heap.size, 0, none⟩ = some (.bool false) := by rw [hcc _ _ (by simp <;> omega)]; simp [go_sem]
    have k1 : w2.cell? ⟨w.heap.size, 1, none⟩ = some (.slice none 0 0) := by rw [hcc _ _ (by simp <;> omega)]; simp [go_sem]
    have k2 : w2.cell? ⟨w.heap.size, 2, none⟩ = some (.int .i64 0) := by rw [hcc _ _ (by simp <;> omega)]; simp [go_sem]
    have k3 : w2.cell? ⟨w.heap.size + 1, 0, none⟩ = some (.int .i64 0) := by rw [hcc _ _ (by simp <;> omega)]; simp [go_sem]
    have f0 : w2.frozen? ⟨w.heap.size, 0, none⟩ = false := by rw [hff _ _ (by simp <;> omega)]; simp [go_sem]
    have f1 : w2.frozen? ⟨w.heap.size, 1, none⟩ = false := by rw [hff _ _ (by simp <;> omega)]; simp [go_sem]
    have f2 : w2.frozen? ⟨w.heap.size, 2, none⟩ = false := by rw [hff _ _ (by simp <;> omega)]; simp [go_sem]
    have f3 : w2.frozen? ⟨w.heap.size + 1, 0, none⟩ = false := by rw [hff _ _ (by simp <;> omega)]; simp [go_sem]
    refine leaves_cons (f := 104) (args := #[.pointer (some ⟨w.heap.size, 0, none⟩), .pointer (some ⟨w.heap.size + 1, 0, none⟩)]) (by simp) (by simp [go_sem]) ?_
    refine (face1_caught w.heap.size (w.heap.size + 1) r.2 _ _ _ _ w2 k0 k1 k2 k3 f0 f1 f2 f3 (by omega)).mono ?_
    rintro e u' w3 ⟨rfl, rfl, hb3, p0, p1, p2, p3⟩
    have hbel : Below w.heap.size w w3 := by
      have t1 : Below w.heap.size w w2 := (((Below.refl _ _).alloc (Nat.le_refl _) _).alloc (by simp) _).trans (hb2.mono (by simp <;> omega))
      exact t1.trans (hb3 _ (by omega) (Nat.le_refl _) (by omega))
    have fin : FacePost w r (.returned (.tuple #[.agg #[.bool false, .slice none 0 0, .int .i64 0], .int .i64 r.2])) w3 :=
      ⟨hbel, _, rfl, by rw [hz]; exact RdD.zero w3⟩
    simp [Leaves, settle, results, Tryd.results63, go_sem, p0, p1, p2, p3]
    exact fin
end Go.Proofs.YtaifjldpjkabjaaDoor
