/- Contracts of package dyad, part B: Sign, fit, the face. Contracts of package dyad, part C: the face, fit. Contracts of package dyad, part D: fit. Contracts of package dyad, part E: Shift. -/
import Derived.Test.YtbpfnooloemieaaGreatDoorDyAx
import Derived.RegionTactic
namespace Go.Proofs.YtbpfnooloemieaaGreatDoor
open Go.RowKit Pl

/-- dyad.Sign. -/
def signD (d : Dy) : Int := if !mayD d || decide (d.m.length = 0) then 0 else if d.neg then -1 else 1

set_option maxRecDepth 100000 in
set_option maxHeartbeats 1000000 in
theorem signD_any (v : Value) (d : Dy) (w : World) (h : RdD w v d) :
    Calls Tryz.prog 84 #[v] w fun e w' => e = .returned (.int .i64 (signD d)) ∧ Below w.heap.size w w' := by
  have hd := h
  obtain ⟨A, n, c, rfl, hr, hl, he1, he2⟩ := h
  obtain ⟨neg, m, e⟩ := d
  simp only at hr hl he1 he2 ⊢
  have hlen := hr.len
  have hd1 := hd.below ((Below.refl w.heap.size w).alloc (Nat.le_refl _) (.cells #[.bool neg, .slice A n c, .int .i64 e] 30))
  by_cases hM : mayD ⟨neg, m, e⟩ = true
  · by_cases h0 : n = 0
    · have e0 : ((n : Int) == 0) = true := by simp [h0]
      have hres : Hid (signD ⟨neg, m, e⟩ = 0) := by unfold Hid signD; simp [hM, hlen, h0]
      clear h0
      go_enter Tryz.func84, Tryz.ntmps84
      go_wp2_with (go_at_call 71; refine (mayD_any _ _ _ hd1).mono ?_; rw [hM]; rintro e w2 ⟨rfl, hb2⟩; obtain ⟨hcc, hff⟩ := bcell hb2)
      go_ret
      exact ⟨ret_int hres.out.symm, below_box hb2⟩
    · have e0 : ((n : Int) == 0) = false := beq_eq_false_iff_ne.2 (by omega)
      have hres : Hid (signD ⟨neg, m, e⟩ = if neg then -1 else 1) := by unfold Hid signD; simp [hM, hlen, h0]
      clear h0
      cases neg
      · go_enter Tryz.func84, Tryz.ntmps84
        go_wp2_with (go_at_call 71; refine (mayD_any _ _ _ hd1).mono ?_; rw [hM]; rintro e w2 ⟨rfl, hb2⟩; obtain ⟨hcc, hff⟩ := bcell hb2)
        go_ret
        exact ⟨ret_int hres.out.symm, below_box hb2⟩
      · go_enter Tryz.func84, Tryz.ntmps84
        go_wp2_with (go_at_call 71; refine (mayD_any _ _ _ hd1).mono ?_; rw [hM]; rintro e w2 ⟨rfl, hb2⟩; obtain ⟨hcc, hff⟩ := bcell hb2)
        go_ret
        exact ⟨ret_int hres.out.symm, below_box hb2⟩
  · have hM' : mayD ⟨neg, m, e⟩ = false := by simpa using hM
    have hres : Hid (signD ⟨neg, m, e⟩ = 0) := by unfold Hid signD; simp [hM']
    clear hM
    go_enter Tryz.func84, Tryz.ntmps84
    go_wp2_with (go_at_call 71; refine (mayD_any _ _ _ hd1).mono ?_; rw [hM']; rintro e w2 ⟨rfl, hb2⟩; obtain ⟨hcc, hff⟩ := bcell hb2)
    go_ret
    exact ⟨ret_int hres.out.symm, below_box hb2⟩

/-- dyad.fit: of a sign, a natural, an exponent: the Dyad and 0, or the zero one and an error. -/
def fitS (neg : Bool) (n : Nat) (e : Int) : Dy × Int :=
  if n = 0 then (Dy.zero, 0)
  else if ¬ (limbs BB (n / 2 ^ tz n)).length ≤ 64 then (Dy.zero, 2)
  else if ¬ (e ≤ 1048576 ∧ -1048576 - (tz n : Int) ≤ e) then (Dy.zero, 3)
  else if ¬ e + (tz n : Int) ≤ 1048576 then (Dy.zero, 3)
  else (⟨neg, limbs BB (n / 2 ^ tz n), e + (tz n : Int)⟩, 0)
/-- How such a call ends. -/
def FitPost (w : World) (r : Dy × Int) (e : Ending) (w' : World) : Prop :=
  Below w.heap.size w w' ∧ ((r.2 = 0 ∧ ∃ v, e = .returned v ∧ RdD w' v r.1) ∨ (r.2 ≠ 0 ∧ r.1 = Dy.zero ∧ e = .panicked (failD r.2)))

theorem frozen_keep_alloc {w : World} {p : Addr} {v : Value} (h : w.cell? p = some v) (hf : w.frozen? p = false) (o : Obj) : (w.alloc o).frozen? p = false := by
  have hlt : p.block < w.heap.size := by
    rcases Nat.lt_or_ge p.block w.heap.size with h2 | h2
    · exact h2
    · simp [World.cell?, Array.getElem?_eq_none h2] at h
  rw [((Below.refl w.heap.size w).alloc (Nat.le_refl _) o).frozen hlt]
  exact hf
theorem lt_of_cell {w : World} {g o : Nat} {v : Value} (h : w.cell? ⟨g, o, none⟩ = some v) : g < w.heap.size := by
  rcases Nat.lt_or_ge g w.heap.size with h2 | h2
  · exact h2
  · simp [World.cell?, Array.getElem?_eq_none h2] at h
theorem ta_nil (w : World) : (Instr.typeAssert .nilIface 20 113 true).run Tryz.prog w = .ok (.tuple #[.agg #[.int .i64 0], .bool false]) w := by kernel_rfl
theorem ta_fail (k : Int) (w : World) : (Instr.typeAssert (.iface 113 (.agg #[.int .i64 k])) 20 113 true).run Tryz.prog w = .ok (.tuple #[.agg #[.int .i64 k], .bool true]) w := by kernel_rfl

set_option maxRecDepth 100000 in
set_option maxHeartbeats 1000000 in
/-- The face's deferred closure behind a return. -/
theorem face1_idle (p q : Addr) (w : World) :
    CallsD Tryz.prog 133 #[.pointer (some p), .pointer (some q)] .returning w fun e u' w' => e = .returned (.tuple #[]) ∧ u' = .returning ∧ Below w.heap.size w w' := by
  refine callsD_of_wpS Tryz.func133 rfl fun c₀ cs hu => ?_
  apply wpS_seq
  apply wpS_region
  simp [wpOpsS, go_sem, recoverD, hu, Tryz.ntmps133, Exit.thenS, ta_nil]
  refine wpS_of_wp ?_
  go_wp2
  have hbel : Below w.heap.size w (w.alloc (.cells #[.int .i64 0] 113)) := by go_grown
  cases c₀
  simp_all [bodyPostS, results, Tryz.results133]

set_option linter.unusedSimpArgs false in
/-- Four stores, and what lies there. -/
theorem chain_cells {g1 g2 : Nat} {c0 c1 c2 c3 a0 a1 a2 a3 : Value} {w : World} (h0 : w.cell? ⟨g1, 0, none⟩ = some c0) (h1 : w.cell? ⟨g1, 1, none⟩ = some c1) (h2 : w.cell? ⟨g1, 2, none⟩ = some c2) (h3 : w.cell? ⟨g2, 0, none⟩ = some c3) (hne : g1 ≠ g2) :
    let W := (((w.setCell ⟨g1, 0, none⟩ a0).setCell ⟨g1, 1, none⟩ a1).setCell ⟨g1, 2, none⟩ a2).setCell ⟨g2, 0, none⟩ a3
    W.cell? ⟨g1, 0, none⟩ = some a0 ∧ W.cell? ⟨g1, 1, none⟩ = some a1 ∧ W.cell? ⟨g1, 2, none⟩ = some a2 ∧ W.cell? ⟨g2, 0, none⟩ = some a3 := by
  have n6 : ¬ g2 = g1 := fun e => hne e.symm
  refine ⟨?_, ?_, ?_, ?_⟩ <;> simp [go_sem, h0, h1, h2, h3, hne, n6]

set_option maxRecDepth 100000 in
set_option maxHeartbeats 1000000 in
/-- The face's deferred closure behind a panic of this package. -/
theorem face1_caught (g1 g2 : Nat) (k : Int) (c0 c1 c2 c3 : Value) (w : World) (h0 : w.cell? ⟨g1, 0, none⟩ = some c0) (h1 : w.cell? ⟨g1, 1, none⟩ = some c1) (h2 : w.cell? ⟨g1, 2, none⟩ = some c2) (h3 : w.cell? ⟨g2, 0, none⟩ = some c3)
    (f0 : w.frozen? ⟨g1, 0, none⟩ = false) (f1 : w.frozen? ⟨g1, 1, none⟩ = false) (f2 : w.frozen? ⟨g1, 2, none⟩ = false) (f3 : w.frozen? ⟨g2, 0, none⟩ = false) (hne : g1 ≠ g2) :
    CallsD Tryz.prog 133 #[.pointer (some ⟨g1, 0, none⟩), .pointer (some ⟨g2, 0, none⟩)] (.panicking (failD k)) w fun e u' w' =>
      e = .returned (.tuple #[]) ∧ u' = .panicking [{ v := .iface 113 (.agg #[.int .i64 k]), recovered := true }] ∧ (∀ B, B ≤ w.heap.size → B ≤ g1 → B ≤ g2 → Below B w w') ∧
        w'.cell? ⟨g1, 0, none⟩ = some (.bool false) ∧ w'.cell? ⟨g1, 1, none⟩ = some (.slice none 0 0) ∧ w'.cell? ⟨g1, 2, none⟩ = some (.int .i64 0) ∧ w'.cell? ⟨g2, 0, none⟩ = some (.int .i64 k) := by
  refine callsD_of_wpS Tryz.func133 rfl fun c₀ cs hu => ?_
  unfold failD at hu
  apply wpS_seq
  apply wpS_region
  simp [wpOpsS, go_sem, recoverD, hu, Tryz.ntmps133, Exit.thenS, ta_fail]
  refine wpS_of_wp ?_
  simp [Array.replicate]
  have k0 := cell_keep_alloc h0 (.cells #[.int .i64 k] 113)
  have k1 := cell_keep_alloc h1 (.cells #[.int .i64 k] 113)
  have k2 := cell_keep_alloc h2 (.cells #[.int .i64 k] 113)
  have k3 := cell_keep_alloc h3 (.cells #[.int .i64 k] 113)
  have l0 := frozen_keep_alloc h0 f0 (.cells #[.int .i64 k] 113)
  have l1 := frozen_keep_alloc h1 f1 (.cells #[.int .i64 k] 113)
  have l2 := frozen_keep_alloc h2 f2 (.cells #[.int .i64 k] 113)
  have l3 := frozen_keep_alloc h3 f3 (.cells #[.int .i64 k] 113)
  have lt1 := lt_of_cell h0
  have lt2 := lt_of_cell h3
  have n1 : ¬ w.heap.size = g1 := by omega
  have n2 : ¬ g1 = w.heap.size := by omega
  have n3 : ¬ w.heap.size = g2 := by omega
  have n4 : ¬ g2 = w.heap.size := by omega
  have n5 : ¬ g1 = g2 := hne
  have n6 : ¬ g2 = g1 := fun e => hne e.symm
  go_wp2
  go_region
  refine ⟨rfl, _, rfl, .tuple #[], by simp [results, Tryz.results133], rfl, rfl, ?_, ?_, ?_, ?_, ?_⟩
  · intro B b1 b2 b3
    exact ((((((Below.refl B w).setCell b2 _).setCell b2 _).setCell b2 _).setCell b3 _).alloc (by simpa [World.setCell] using b1) _).drew
  · exact cell_keep_alloc (chain_cells h0 h1 h2 h3 hne).1 _
  · exact cell_keep_alloc (chain_cells h0 h1 h2 h3 hne).2.1 _
  · exact cell_keep_alloc (chain_cells h0 h1 h2 h3 hne).2.2.1 _
  · exact cell_keep_alloc (chain_cells h0 h1 h2 h3 hne).2.2.2 _
end Go.Proofs.YtbpfnooloemieaaGreatDoor
namespace Go.Proofs.YtbpfnooloemieaaGreatDoor
open Go.RowKit Pl

/-- What a face gives: the Dyad, or the zero one, and the error. -/
def FacePost (w : World) (r : Dy × Int) (e : Ending) (w' : World) : Prop :=
  Below w.heap.size w w' ∧ ∃ v, e = .returned (.tuple #[v, .int .i64 r.2]) ∧ RdD w' v r.1

theorem box3_not {w : World} {o : Nat} {a : Bool} {e x : Int} {s : Value} {t t2 : TypeId} {v : Value} (hs : s = .slice none 0 0) (h : ((w.alloc (.cells #[.bool a, s, .int .i64 e] t)).alloc (.cells #[v] t2)).cell? ⟨w.heap.size, o, none⟩ = some (.int .u64 x)) : False := by
  subst hs
  have h1 : ((w.alloc (.cells #[.bool a, .slice none 0 0, .int .i64 e] t)).alloc (.cells #[v] t2)).cell? ⟨w.heap.size, o, none⟩ = (w.alloc (.cells #[.bool a, .slice none 0 0, .int .i64 e] t)).cell? ⟨w.heap.size, o, none⟩ :=
    World.cell?_alloc_lt _ _ _ (by simp)
  rw [h1, cell_of_row _ _ _ _ _ _ (heap_alloc_new w _)] at h
  rcases o with _ | _ | _ | o <;> simp at h
theorem box1_not {w : World} {o : Nat} {e x : Int} {ob : Obj} {t2 : TypeId} (h : ((w.alloc ob).alloc (.cells #[.int .i64 e] t2)).cell? ⟨w.heap.size + 1, o, none⟩ = some (.int .u64 x)) : False := by
  have h2 : w.heap.size + 1 = (w.alloc ob).heap.size := by simp
  rw [h2, cell_of_row _ _ _ _ _ _ (heap_alloc_new _ _)] at h
  rcases o with _ | o <;> simp at h

set_option maxRecDepth 100000 in
set_option maxHeartbeats 1000000 in
theorem face_any (g : FuncId) (cap : Array Value) (r : Dy × Int) (w : World) (hen : ∀ args W, (callFunc g args).run Tryz.prog W = .ok (.enter g args) W)
    (hdo : ∀ W, Below w.heap.size w W → Calls Tryz.prog g cap W (FitPost W r)) :
    Calls Tryz.prog 115 #[.func (.func g) #[] cap] w (FacePost w r) := by
  have hmf : ∀ (fn : Fn) (first cap : Array Value) (w : World), (Instr.makeFunc fn first cap).run Tryz.prog w = .ok (.func fn first cap) w := fun _ _ _ _ => rfl
  have HD := hide hdo
  clear hdo
  go_enter_defers Tryz.func115, Tryz.ntmps115
  go_wp2_with fail
  refine (HD.out _ ?_).mono ?_
  · go_grown
  rintro e w2 ⟨hb2, ⟨h0, v, rfl, hv⟩ | ⟨h0, hz, rfl⟩⟩
  · obtain ⟨A', n', c', rfl, hv1, hv2, hv3⟩ := hv
    obtain ⟨hcc, hff⟩ := bcell hb2
    have hsz : w.heap.size + 2 ≤ w2.heap.size := by have := hb2.size; simp at this; omega
    have k0 : w2.cell? ⟨w.heap.size, 0, none⟩ = some (.bool false) := by rw [hcc _ _ (by simp <;> omega)]; simp [go_sem]
    have k1 : w2.cell? ⟨w.heap.size, 1, none⟩ = some (.slice none 0 0) := by rw [hcc _ _ (by simp <;> omega)]; simp [go_sem]
    have k2 : w2.cell? ⟨w.heap.size, 2, none⟩ = some (.int .i64 0) := by rw [hcc _ _ (by simp <;> omega)]; simp [go_sem]
    have k3 : w2.cell? ⟨w.heap.size + 1, 0, none⟩ = some (.int .i64 0) := by rw [hcc _ _ (by simp <;> omega)]; simp [go_sem]
    obtain ⟨q0, q1, q2, q3⟩ := chain_cells (a0 := .bool r.1.neg) (a1 := .slice A' n' c') (a2 := .int .i64 r.1.e) (a3 := .int .i64 0) k0 k1 k2 k3 (by omega)
    have HB2 := hide hb2
    have Q0 := hide q0
    have Q1 := hide q1
    have Q2 := hide q2
    have Q3 := hide q3
    clear hb2 q0 q1 q2 q3
    go_wp2
    refine leaves_cons (f := 133) (args := #[.pointer (some ⟨w.heap.size, 0, none⟩), .pointer (some ⟨w.heap.size + 1, 0, none⟩)]) (by simp) (by simp [go_sem]) ?_
    refine (face1_idle _ _ _).mono ?_
    rintro e u' w3 ⟨rfl, rfl, hb3⟩
    have hs : w2.heap.size ≤ w3.heap.size := by have := hb3.size; simpa [World.setCell] using this
    have p0 := (hb3.cell (p := ⟨w.heap.size, 0, none⟩) (by simp [World.setCell] <;> omega)).trans Q0.out
    have p1 := (hb3.cell (p := ⟨w.heap.size, 1, none⟩) (by simp [World.setCell] <;> omega)).trans Q1.out
    have p2 := (hb3.cell (p := ⟨w.heap.size, 2, none⟩) (by simp [World.setCell] <;> omega)).trans Q2.out
    have p3 := (hb3.cell (p := ⟨w.heap.size + 1, 0, none⟩) (by simp [World.setCell] <;> omega)).trans Q3.out
    have hbel : Below w.heap.size w w3 := by
      have t1 : Below w.heap.size w w2 := (((Below.refl _ _).alloc (Nat.le_refl _) _).alloc (by simp) _).trans (HB2.out.mono (by simp <;> omega))
      exact ((((t1.setCell (Nat.le_refl _) _).setCell (Nat.le_refl _) _).setCell (Nat.le_refl _) _).setCell (Nat.le_succ _) _).trans (hb3.mono (by simp [World.setCell] <;> omega))
    have fin : FacePost w r (.returned (.tuple #[.agg #[.bool r.1.neg, .slice A' n' c', .int .i64 r.1.e], .int .i64 0])) w3 := by
      have hv4 : RdN .u64 w3 A' n' c' r.1.m := by
        refine hv1.keepU hs fun b o x hx => ?_
        have hlt := lt_of_cell hx
        have n1 : b ≠ w.heap.size := by
          rintro rfl
          rw [hcc _ _ (by simp <;> omega)] at hx
          exact box3_not rfl hx
        have n2 : b ≠ w.heap.size + 1 := by
          rintro rfl
          rw [hcc _ _ (by simp <;> omega)] at hx
          exact box1_not hx
        rw [hb3.cell (p := ⟨b, o, none⟩) (by simpa [World.setCell] using hlt)]
        rw [World.cell?_setCell_other _ _ _ _ (by intro e; injection e with e; omega), World.cell?_setCell_other _ _ _ _ (by intro e; injection e with e; omega), World.cell?_setCell_other _ _ _ _ (by intro e; injection e with e; omega), World.cell?_setCell_other _ _ _ _ (by intro e; injection e with e; omega)]
        exact hx
      exact ⟨hbel, _, by rw [h0], A', n', c', rfl, hv4, hv2, hv3⟩
    simp [Leaves, settle, results, Tryz.results115, go_sem, p0, p1, p2, p3]
    exact fin
  · obtain ⟨hcc, hff⟩ := bcell hb2
    have hsz : w.heap.size + 2 ≤ w2.heap.size := by have := hb2.size; simp at this; omega
    have k0 : w2.cell? ⟨w.heap.size, 0, none⟩ = some (.bool false) := by rw [hcc _ _ (by simp <;> omega)]; simp [go_sem]
    have k1 : w2.cell? ⟨w.heap.size, 1, none⟩ = some (.slice none 0 0) := by rw [hcc _ _ (by simp <;> omega)]; simp [go_sem]
    have k2 : w2.cell? ⟨w.heap.size, 2, none⟩ = some (.int .i64 0) := by rw [hcc _ _ (by simp <;> omega)]; simp [go_sem]
    have k3 : w2.cell? ⟨w.heap.size + 1, 0, none⟩ = some (.int .i64 0) := by rw [hcc _ _ (by simp <;> omega)]; simp [go_sem]
    have f0 : w2.frozen? ⟨w.heap.size, 0, none⟩ = false := by rw [hff _ _ (by simp <;> omega)]; simp [go_sem]
    have f1 : w2.frozen? ⟨w.heap.size, 1, none⟩ = false := by rw [hff _ _ (by simp <;> omega)]; simp [go_sem]
    have f2 : w2.frozen? ⟨w.heap.size, 2, none⟩ = false := by rw [hff _ _ (by simp <;> omega)]; simp [go_sem]
    have f3 : w2.frozen? ⟨w.heap.size + 1, 0, none⟩ = false := by rw [hff _ _ (by simp <;> omega)]; simp [go_sem]
    refine leaves_cons (f := 133) (args := #[.pointer (some ⟨w.heap.size, 0, none⟩), .pointer (some ⟨w.heap.size + 1, 0, none⟩)]) (by simp) (by simp [go_sem]) ?_
    refine (face1_caught w.heap.size (w.heap.size + 1) r.2 _ _ _ _ w2 k0 k1 k2 k3 f0 f1 f2 f3 (by omega)).mono ?_
    rintro e u' w3 ⟨rfl, rfl, hb3, p0, p1, p2, p3⟩
    have hbel : Below w.heap.size w w3 := by
      have t1 : Below w.heap.size w w2 := (((Below.refl _ _).alloc (Nat.le_refl _) _).alloc (by simp) _).trans (hb2.mono (by simp <;> omega))
      exact t1.trans (hb3 _ (by omega) (Nat.le_refl _) (by omega))
    have fin : FacePost w r (.returned (.tuple #[.agg #[.bool false, .slice none 0 0, .int .i64 0], .int .i64 r.2])) w3 :=
      ⟨hbel, _, rfl, by rw [hz]; exact RdD.zero w3⟩
    simp [Leaves, settle, results, Tryz.results115, go_sem, p0, p1, p2, p3]
    exact fin
end Go.Proofs.YtbpfnooloemieaaGreatDoor
namespace Go.Proofs.YtbpfnooloemieaaGreatDoor
open Go.RowKit Pl

theorem limbs_div_len {xs : List Nat} (hl : Lim BB xs) (k : Nat) : (limbs BB (val BB xs / 2 ^ k)).length ≤ xs.length := by
  rw [limbs_len_le BB_gt1]
  exact Nat.lt_of_le_of_lt (Nat.div_le_self _ _) (val_lt hl)
theorem tz_len {xs : List Nat} (hl : Lim BB xs) (h0 : val BB xs ≠ 0) : tz (val BB xs) < 64 * xs.length := by
  refine Nat.lt_of_lt_of_le (tz_lt_blen h0) (blen_le.2 ?_)
  rw [← pow_BB]; exact val_lt hl

theorem box3_not1 {w : World} {o : Nat} {a : Bool} {e x : Int} {t : TypeId} (h : (w.alloc (.cells #[.bool a, .slice none 0 0, .int .i64 e] t)).cell? ⟨w.heap.size, o, none⟩ = some (.int .u64 x)) : False := by
  rw [cell_of_row _ _ _ _ _ _ (heap_alloc_new w _)] at h
  rcases o with _ | _ | _ | o <;> simp at h
/-- A Dyad stored into a variable of the call's own. -/
theorem store_dy {w w2 : World} {t : TypeId} {v0 v1 v2 : Value} {N : Nat} (hN : w.heap.size = N) (hb2 : Below (w.alloc (.cells #[.bool false, .slice none 0 0, .int .i64 0] t)).heap.size (w.alloc (.cells #[.bool false, .slice none 0 0, .int .i64 0] t)) w2) :
    (∀ {A : Option Addr} {n c : Nat} {xs : List Nat}, RdN .u64 w2 A n c xs → RdN .u64 (((w2.setCell ⟨N, 0, none⟩ v0).setCell ⟨N, 1, none⟩ v1).setCell ⟨N, 2, none⟩ v2) A n c xs) ∧
    Below w.heap.size w (((w2.setCell ⟨N, 0, none⟩ v0).setCell ⟨N, 1, none⟩ v1).setCell ⟨N, 2, none⟩ v2) ∧
    (((w2.setCell ⟨N, 0, none⟩ v0).setCell ⟨N, 1, none⟩ v1).setCell ⟨N, 2, none⟩ v2).cell? ⟨N, 0, none⟩ = some v0 ∧
    (((w2.setCell ⟨N, 0, none⟩ v0).setCell ⟨N, 1, none⟩ v1).setCell ⟨N, 2, none⟩ v2).cell? ⟨N, 1, none⟩ = some v1 ∧
    (((w2.setCell ⟨N, 0, none⟩ v0).setCell ⟨N, 1, none⟩ v1).setCell ⟨N, 2, none⟩ v2).cell? ⟨N, 2, none⟩ = some v2 := by
  subst hN
  obtain ⟨hcc, hff⟩ := bcell hb2
  have k0 : w2.cell? ⟨w.heap.size, 0, none⟩ = some (.bool false) := by rw [hcc _ _ (by simp)]; simp [go_sem]
  have k1 : w2.cell? ⟨w.heap.size, 1, none⟩ = some (.slice none 0 0) := by rw [hcc _ _ (by simp)]; simp [go_sem]
  have k2 : w2.cell? ⟨w.heap.size, 2, none⟩ = some (.int .i64 0) := by rw [hcc _ _ (by simp)]; simp [go_sem]
  refine ⟨fun h => h.keepU (by simp [World.setCell]) fun b o x hx => ?_, ?_, ?_, ?_, ?_⟩
  · have n1 : b ≠ w.heap.size := by
      rintro rfl
      rw [hcc _ _ (by simp)] at hx
      exact box3_not1 hx
    rw [World.cell?_setCell_other _ _ _ _ (by intro e; injection e with e; omega), World.cell?_setCell_other _ _ _ _ (by intro e; injection e with e; omega), World.cell?_setCell_other _ _ _ _ (by intro e; injection e with e; omega)]
    exact hx
  · exact (((below_box hb2).setCell (Nat.le_refl _) _).setCell (Nat.le_refl _) _).setCell (Nat.le_refl _) _
  · simp [go_sem, k0]
  · simp [go_sem, k1]
  · simp [go_sem, k2]

set_option maxRecDepth 100000 in
set_option maxHeartbeats 1000000 in
theorem fit_any (neg : Bool) (A : Option Addr) (n c : Nat) (xs : List Nat) (e : Int) (w : World) (h : RdN .u64 w A n c xs) (hl : Lim BB xs) (hC : Cnl xs) (hn : n ≤ 10000) (he1 : -9223372036854775808 ≤ e) (he2 : e ≤ 9223372036854775807) (hT : TabAt w) :
    Calls Tryz.prog 118 #[.bool neg, .slice A n c, .int .i64 e] w (FitPost w (fitS neg (val BB xs) e)) := by
  have hlen := h.len
  by_cases h0 : n = 0
  · subst h0
    have hx : xs = [] := List.length_eq_zero_iff.1 hlen
    subst hx
    go_enter Tryz.func118, Tryz.ntmps118
    go_wp2
    refine bodyPost_ret (v := .agg #[.bool false, .slice none 0 0, .int .i64 0]) (by simp [results, Tryz.results118, go_sem]) rfl ⟨by go_grown, .inl ⟨rfl, _, rfl, RdD.zero _⟩⟩
  · have e0 : ((n : Int) == 0) = false := beq_eq_false_iff_ne.2 (by omega)
    have hv : val BB xs ≠ 0 := by
      have := val_pos_of_can BB_pos hC (by intro e; rw [e] at hlen; exact h0 hlen.symm)
      omega
    have hz : zerosN xs = (tz (val BB xs) : Int) := by unfold zerosN; rw [if_neg hv]
    have hz1 := tz_len hl hv
    have hb1 : Below w.heap.size w (w.alloc (.cells #[.bool false, .slice none 0 0, .int .i64 0] 30)) := by go_grown
    have h1 := h.below hb1
    have hT1 := hide (hT.below hb1)
    obtain ⟨z, hzz⟩ : ∃ z, z = tz (val BB xs) := ⟨_, rfl⟩
    have hzl : z < 64 * xs.length := by omega
    have HZ : Hid (zerosN xs = (z : Int)) := by rw [hzz]; exact hz
    obtain ⟨ys, hys⟩ : ∃ ys, ys = limbs BB (val BB xs / 2 ^ z) := ⟨_, rfl⟩
    have hyl : ys.length ≤ xs.length := by rw [hys]; exact limbs_div_len hl z
    have hyL : Lim BB ys := by rw [hys]; exact limbs_lim BB_gt1 _
    have HR : Hid (fitS neg (val BB xs) e = if ¬ ys.length ≤ 64 then (Dy.zero, 2) else if ¬ (e ≤ 1048576 ∧ -1048576 - (z : Int) ≤ e) then (Dy.zero, 3) else if ¬ e + (z : Int) ≤ 1048576 then (Dy.zero, 3) else (⟨neg, ys, e + (z : Int)⟩, 0)) := by
      unfold Hid fitS
      rw [if_neg hv, hys, hzz]
    have HY := hide hys
    clear hz hz1 hys hzz hv
    go_enter Tryz.func118, Tryz.ntmps118
    go_wp2_with (go_at_call 134; refine (zeros_any _ _ _ _ _ h1 hl (by omega) hT1.out).mono ?_; rw [HZ.out]; rintro e w' ⟨rfl, rfl⟩)
    refine (right_any _ _ _ _ _ _ h1 hl (by omega) (by omega)).mono ?_
    rintro e1 w2 ⟨A', n', c', rfl, hr2, hb2⟩
    rw [← HY.out] at hr2
    obtain ⟨hcc, hff⟩ := bcell hb2
    have hyn := hr2.len
    subst hyn
    by_cases g1 : ys.length ≤ 64
    · have d1 : decide ((ys.length : Int) ≤ 64) = true := by simp; omega
      by_cases g2 : e ≤ 1048576
      · have d2 : decide (e ≤ 1048576) = true := by simpa using g2
        by_cases g3 : -1048576 - (z : Int) ≤ e
        · have d3 : decide (-1048576 - (z : Int) ≤ e) = true := by simpa using g3
          by_cases g4 : e + (z : Int) ≤ 1048576
          · have d4 : decide (e + (z : Int) ≤ 1048576) = true := by simpa using g4
            go_wp2_with (go_at_call 117; refine (must_yes _ _).mono ?_; rintro e w' ⟨rfl, rfl⟩)
            obtain ⟨s1, s2, q0, q1, q2⟩ := store_dy (v0 := .bool neg) (v1 := .slice A' ys.length c') (v2 := .int .i64 (e + (z : Int))) rfl hb2
            refine bodyPost_ret (v := .agg #[.bool neg, .slice A' ys.length c', .int .i64 (e + (z : Int))]) (by simp [results, Tryz.results118, go_sem, q0, q1, q2]) rfl ⟨s2, .inl ?_⟩
            rw [HR.out, if_neg (by omega), if_neg (by omega), if_neg (by omega)]
            exact ⟨rfl, _, rfl, _, _, _, rfl, s1 hr2, hyL, by show _ ≤ e + (z : Int); omega, by show e + (z : Int) ≤ _; omega⟩
          · have d4 : decide (e + (z : Int) ≤ 1048576) = false := by simpa using g4
            go_wp2_with (go_at_call 117; first | ((with_reducible refine (must_yes _ _).mono ?_); rintro e w' ⟨rfl, rfl⟩) | ((with_reducible refine (must_no _ _).mono ?_); rintro e w' ⟨rfl, rfl⟩))
            refine ⟨rfl, below_box hb2, .inr ?_⟩
            rw [HR.out, if_neg (by omega), if_neg (by omega), if_pos g4]
            exact ⟨by decide, rfl, rfl⟩
        · have d3 : decide (-1048576 - (z : Int) ≤ e) = false := by simpa using g3
          go_wp2_with (go_at_call 117; first | ((with_reducible refine (must_yes _ _).mono ?_); rintro e w' ⟨rfl, rfl⟩) | ((with_reducible refine (must_no _ _).mono ?_); rintro e w' ⟨rfl, rfl⟩))
          refine ⟨rfl, below_box hb2, .inr ?_⟩
          rw [HR.out, if_neg (by omega), if_pos (by omega)]
          exact ⟨by decide, rfl, rfl⟩
      · have d2 : decide (e ≤ 1048576) = false := by simpa using g2
        go_wp2_with (go_at_call 117; first | ((with_reducible refine (must_yes _ _).mono ?_); rintro e w' ⟨rfl, rfl⟩) | ((with_reducible refine (must_no _ _).mono ?_); rintro e w' ⟨rfl, rfl⟩))
        refine ⟨rfl, below_box hb2, .inr ?_⟩
        rw [HR.out, if_neg (by omega), if_pos (by omega)]
        exact ⟨by decide, rfl, rfl⟩
    · have d1 : decide ((ys.length : Int) ≤ 64) = false := by simp; omega
      go_wp2_with (go_at_call 117; refine (must_no _ _).mono ?_; rintro e w' ⟨rfl, rfl⟩)
      refine ⟨rfl, below_box hb2, .inr ?_⟩
      rw [HR.out, if_pos g1]
      exact ⟨by decide, rfl, rfl⟩
end Go.Proofs.YtbpfnooloemieaaGreatDoor
namespace Go.Proofs.YtbpfnooloemieaaGreatDoor
open Go.RowKit Pl

theorem mayN_can {xs : List Nat} (h : mayN xs = true) : Cnl xs ∧ xs.length ≤ 64 := by
  unfold mayN at h
  rcases Nat.eq_zero_or_pos xs.length with h0 | h0
  · rw [List.length_eq_zero_iff.1 h0]
    exact ⟨by simp [Cnl], by simp⟩
  · have h1 : decide (xs.length = 0) = false := by rw [decide_eq_false_iff_not]; omega
    rw [h1, Bool.false_or, Bool.and_eq_true] at h
    obtain ⟨h2, h3⟩ := h
    refine ⟨?_, by simpa using h2⟩
    intro hl
    rw [List.getLast?_eq_getElem?] at hl
    have h4 : nth xs (xs.length - 1) = 0 := by simp [nth, List.getD_eq_getElem?_getD, hl]
    rw [h4] at h3
    simp at h3
theorem mayD_limbs {d : Dy} (h : mayD d = true) : Cnl d.m ∧ d.m.length ≤ 64 ∧ -1048576 ≤ d.e ∧ d.e ≤ 1048576 := by
  unfold mayD at h
  split at h
  · rename_i h0
    rw [List.length_eq_zero_iff.1 h0]
    simp only [Bool.and_eq_true, decide_eq_true_eq] at h
    exact ⟨by simp [Cnl], by simp, by omega, by omega⟩
  · simp only [Bool.and_eq_true, decide_eq_true_eq] at h
    obtain ⟨⟨⟨h1, _⟩, h3⟩, h4⟩ := h
    exact ⟨(mayN_can h1).1, (mayN_can h1).2, h3, h4⟩

/-- dyad.Shift. -/
def shiftS (d : Dy) (n : Int) : Dy × Int :=
  if mayD d = false then (Dy.zero, 1)
  else if d.m.length = 0 then (d, 0)
  else if ¬ (n ≤ 2097152 ∧ -2097152 ≤ n) then (Dy.zero, 3)
  else fitS d.neg (val BB d.m) (d.e + n)

set_option maxRecDepth 100000 in
set_option maxHeartbeats 1000000 in
theorem shift1_any (g1 g2 : Nat) (d : Dy) (n : Int) (A : Option Addr) (c : Nat) (W : World) (h0 : W.cell? ⟨g1, 0, none⟩ = some (.bool d.neg)) (h1 : W.cell? ⟨g1, 1, none⟩ = some (.slice A d.m.length c)) (h2 : W.cell? ⟨g1, 2, none⟩ = some (.int .i64 d.e))
    (h3 : W.cell? ⟨g2, 0, none⟩ = some (.int .i64 n)) (hr : RdN .u64 W A d.m.length c d.m) (hl : Lim BB d.m) (he1 : -9223372036854775808 ≤ d.e) (he2 : d.e ≤ 9223372036854775807) (hT : TabAt W) :
    Calls Tryz.prog 116 #[.pointer (some ⟨g1, 0, none⟩), .pointer (some ⟨g2, 0, none⟩)] W (FitPost W (shiftS d n)) := by
  obtain ⟨neg, m, e⟩ := d
  simp only at h0 h1 h2 hr hl he1 he2
  have hd : RdD W (.agg #[.bool neg, .slice A m.length c, .int .i64 e]) ⟨neg, m, e⟩ := ⟨A, m.length, c, rfl, hr, hl, he1, he2⟩
  have hb1 : Below W.heap.size W (W.alloc (.cells #[.bool false, .slice none 0 0, .int .i64 0] 30)) := by go_grown
  have hd1 := hd.below hb1
  have hr1 := hr.below hb1
  have k0 := cell_keep_alloc h0 (.cells #[.bool false, .slice none 0 0, .int .i64 0] 30)
  have k1 := cell_keep_alloc h1 (.cells #[.bool false, .slice none 0 0, .int .i64 0] 30)
  have k2 := cell_keep_alloc h2 (.cells #[.bool false, .slice none 0 0, .int .i64 0] 30)
  have k3 := cell_keep_alloc h3 (.cells #[.bool false, .slice none 0 0, .int .i64 0] 30)
  have hg1 := lt_of_cell h0
  have hg2 := lt_of_cell h3
  have HT := hide (hT.below hb1)
  clear h0 h1 h2 h3 hT
  by_cases hM : mayD ⟨neg, m, e⟩ = true
  · obtain ⟨hC, hl64, hle1, hle2⟩ := mayD_limbs hM
    simp only at hC hl64 hle1 hle2
    go_enter Tryz.func116, Tryz.ntmps116
    go_wp2_with fail
    refine (mayD_any _ _ _ hd1).mono ?_
    rw [hM]
    rintro e1 w2 ⟨rfl, hb2⟩
    have c0 := (hb2.cell (p := ⟨g1, 0, none⟩) (by simp <;> omega)).trans k0
    have c1 := (hb2.cell (p := ⟨g1, 1, none⟩) (by simp <;> omega)).trans k1
    have c2 := (hb2.cell (p := ⟨g1, 2, none⟩) (by simp <;> omega)).trans k2
    have c3 := (hb2.cell (p := ⟨g2, 0, none⟩) (by simp <;> omega)).trans k3
    have hr2 := hr1.below hb2
    have HT2 := hide (HT.out.below hb2)
    obtain ⟨hcc, hff⟩ := bcell hb2
    by_cases hz : m.length = 0
    · have e0 : ((m.length : Int) == 0) = true := by simp [hz]
      clear k0 k1 k2 k3
      obtain ⟨s1, s2, q0, q1, q2⟩ := store_dy (v0 := .bool neg) (v1 := .slice A m.length c) (v2 := .int .i64 e) rfl hb2
      have HR : Hid (shiftS ⟨neg, m, e⟩ n = (⟨neg, m, e⟩, 0)) := by
        unfold Hid shiftS
        rw [if_neg (by simp [hM]), if_pos hz]
      clear hz
      go_wp2_with (go_at_call 117; (with_reducible refine (must_yes _ _).mono ?_); rintro e w' ⟨rfl, rfl⟩)
      refine bodyPost_ret (v := .agg #[.bool neg, .slice A m.length c, .int .i64 e]) (by simp [results, Tryz.results116, go_sem, q0, q1, q2]) rfl ⟨s2, .inl ?_⟩
      rw [HR.out]
      exact ⟨rfl, _, rfl, _, _, _, rfl, s1 hr2, hl, he1, he2⟩
    · have e0 : ((m.length : Int) == 0) = false := beq_eq_false_iff_ne.2 (by omega)
      by_cases g1' : n ≤ 2097152
      · have d1 : decide (n ≤ 2097152) = true := by simpa using g1'
        by_cases g2' : -2097152 ≤ n
        · have d2 : decide (-2097152 ≤ n) = true := by simpa using g2'
          have HR : Hid (shiftS ⟨neg, m, e⟩ n = fitS neg (val BB m) (e + n)) := by
            unfold Hid shiftS
            rw [if_neg (by simp [hM]), if_neg hz, if_neg (by omega)]
          clear k0 k1 k2 k3
          go_wp2_with (go_at_call 117; (with_reducible refine (must_yes _ _).mono ?_); rintro e w' ⟨rfl, rfl⟩)
          refine (fit_any _ _ _ _ _ _ _ hr2 hl hC (by omega) (by omega) (by omega) HT2.out).mono ?_
          rintro e1 w3 ⟨hb3, ⟨z0, v, rfl, hv⟩ | ⟨z0, zz, rfl⟩⟩
          · obtain ⟨A', n', c', rfl, hv1, hv2, hv3⟩ := hv
            have hb23 := hb2.trans (hb3.mono (by have := hb2.size; simp at this; simp; omega))
            clear hcc hff
            obtain ⟨hcc, hff⟩ := bcell hb23
            obtain ⟨s1, s2, q0, q1, q2⟩ := store_dy (v0 := .bool (fitS neg (val BB m) (e + n)).1.neg) (v1 := .slice A' n' c') (v2 := .int .i64 (fitS neg (val BB m) (e + n)).1.e) rfl hb23
            have S2 := hide s2
            clear s2 hb3 hb23 hb2
            go_wp2
            refine bodyPost_ret (v := .agg #[.bool (fitS neg (val BB m) (e + n)).1.neg, .slice A' n' c', .int .i64 (fitS neg (val BB m) (e + n)).1.e]) (by simp [results, Tryz.results116, go_sem, q0, q1, q2]) rfl ⟨S2.out, .inl ?_⟩
            rw [HR.out]
            exact ⟨z0, _, rfl, _, _, _, rfl, s1 hv1, hv2, hv3⟩
          · refine ⟨rfl, ?_, .inr ?_⟩
            · exact (below_box hb2).trans (hb3.mono (by have := hb2.size; simp at this; omega))
            · rw [HR.out]
              exact ⟨z0, zz, rfl⟩
        · have d2 : decide (-2097152 ≤ n) = false := by simpa using g2'
          go_wp2_with (go_at_call 117; first | ((with_reducible refine (must_yes _ _).mono ?_); rintro e w' ⟨rfl, rfl⟩) | ((with_reducible refine (must_no _ _).mono ?_); rintro e w' ⟨rfl, rfl⟩))
          refine ⟨rfl, below_box hb2, .inr ?_⟩
          unfold shiftS
          rw [if_neg (by simp [hM]), if_neg hz, if_pos (by omega)]
          exact ⟨by decide, rfl, rfl⟩
      · have d1 : decide (n ≤ 2097152) = false := by simpa using g1'
        go_wp2_with (go_at_call 117; first | ((with_reducible refine (must_yes _ _).mono ?_); rintro e w' ⟨rfl, rfl⟩) | ((with_reducible refine (must_no _ _).mono ?_); rintro e w' ⟨rfl, rfl⟩))
        refine ⟨rfl, below_box hb2, .inr ?_⟩
        unfold shiftS
        rw [if_neg (by simp [hM]), if_neg hz, if_pos (by omega)]
        exact ⟨by decide, rfl, rfl⟩
  · have hM' : mayD ⟨neg, m, e⟩ = false := by simpa using hM
    clear hM
    go_enter Tryz.func116, Tryz.ntmps116
    go_wp2_with fail
    refine (mayD_any _ _ _ hd1).mono ?_
    rw [hM']
    rintro e1 w2 ⟨rfl, hb2⟩
    go_wp2_with (go_at_call 117; (with_reducible refine (must_no _ _).mono ?_); rintro e w' ⟨rfl, rfl⟩)
    refine ⟨rfl, below_box hb2, .inr ?_⟩
    unfold shiftS
    rw [if_pos hM']
    exact ⟨by decide, rfl, rfl⟩

/-- A function with a body is entered. -/
theorem enters {f : FuncId} {fn : Func} {c : Code} (hf : Tryz.prog.funcs[f]? = some fn) (hname : (fn.name == "runtime.NumGoroutine") = false) (hb : fn.body = some c) (args : Array Value) (w : World) :
    (callFunc f args).run Tryz.prog w = .ok (.enter f args) w := by
  have h1 : fn.name ≠ "runtime.NumGoroutine" := by simpa using hname
  simp [callFunc, hf, h1, hb, mark]

set_option maxRecDepth 100000 in
set_option maxHeartbeats 1000000 in
theorem shift_any (v : Value) (d : Dy) (n : Int) (w : World) (h : RdD w v d) (hT : TabAt w) :
    Calls Tryz.prog 97 #[v, .int .i64 n] w (FacePost w (shiftS d n)) := by
  have hmf : ∀ (fn : Fn) (first cap : Array Value) (w : World), (Instr.makeFunc fn first cap).run Tryz.prog w = .ok (.func fn first cap) w := fun _ _ _ _ => rfl
  obtain ⟨A, n', c, rfl, hr, hl, he1, he2⟩ := h
  have hlen := hr.len
  subst hlen
  go_enter Tryz.func97, Tryz.ntmps97
  go_wp2_with fail
  refine (face_any 116 _ (shiftS d n) _ (enters Tryz.func116 (by kernel_rfl) rfl) ?_).mono ?_
  · intro W hW
    have hb : Below w.heap.size w W := (by go_grown : Below w.heap.size w (((w.alloc (.cells #[.bool d.neg, .slice A d.m.length c, .int .i64 d.e] 30)).alloc (.cells #[.int .i64 n] 3)).alloc (.cells #[.bool false, .slice none 0 0, .int .i64 0] 30))).trans (hW.mono (by simp <;> omega))
    have k0 := (hW.cell (p := ⟨w.heap.size, 0, none⟩) (by simp <;> omega))
    have k1 := (hW.cell (p := ⟨w.heap.size, 1, none⟩) (by simp <;> omega))
    have k2 := (hW.cell (p := ⟨w.heap.size, 2, none⟩) (by simp <;> omega))
    have k3 := (hW.cell (p := ⟨w.heap.size + 1, 0, none⟩) (by simp <;> omega))
    exact shift1_any _ _ d n A c W (k0.trans (by simp [go_sem])) (k1.trans (by simp [go_sem])) (k2.trans (by simp [go_sem])) (k3.trans (by simp [go_sem])) (hr.below hb) hl he1 he2 (hT.below hb)
  rintro e1 w2 ⟨hb2, v, rfl, hv⟩
  obtain ⟨A', n', c', rfl, hv1, hv2, hv3⟩ := hv
  obtain ⟨hcc, hff⟩ := bcell hb2
  obtain ⟨s1, s2, q0, q1, q2⟩ := store_dy (N := w.heap.size + 1 + 1) (v0 := .bool (shiftS d n).1.neg) (v1 := .slice A' n' c') (v2 := .int .i64 (shiftS d n).1.e) (by simp) hb2
  have S2 := hide s2
  clear s2 hb2
  go_wp2
  refine bodyPost_ret (v := .tuple #[.agg #[.bool (shiftS d n).1.neg, .slice A' n' c', .int .i64 (shiftS d n).1.e], .int .i64 (shiftS d n).2]) (by simp [results, Tryz.results97, go_sem, q0, q1, q2]) rfl ⟨?_, _, rfl, _, _, _, rfl, s1 hv1, hv2, hv3⟩
  exact (by go_grown : Below w.heap.size w ((w.alloc (.cells #[.bool d.neg, .slice A d.m.length c, .int .i64 d.e] 30)).alloc (.cells #[.int .i64 n] 3))).trans (S2.out.mono (by simp <;> omega))
end Go.Proofs.YtbpfnooloemieaaGreatDoor
