/- What the given arguments read as: rows of Dyads, of intervals. -/
import Derived.Test.YtpkfjfpknbhekaaOpenIx
import Derived.Test.YtpkfjfpknbhekaaSeqIx
import Derived.Deep.Slices
namespace Go.Proofs.Ytpkfjfpknbhekaa
open Go.ChangeShapes Go.WideShapes Go.ChangeAt Go.RowKit Go.Deep Pl

instance : Inhabited Dy := ⟨Dy.zero⟩
instance : Inhabited Iv := ⟨Iv.zero⟩
section
variable {H : Type} {enc : TypeId × Value → H} {W : World} {r : Reach} {b0 : Nat} {v : Value} {d : DataW H} {ps : List MemPlace}
theorem add_at (g o k : Nat) : (⟨g, o, none⟩ : Addr).add k = ⟨g, o + k, none⟩ := by unfold Addr.add; split <;> simp_all
theorem rd_rows {α : Type} [Inhabited α] (k : Sx.Kind α) {t e : TypeId} {fuel : Nat} {cs : List Value} {x : DataW H × List MemPlace} (ht : Try.prog.underlying t = some (.slice e)) (hc : Try.prog.cellsOf e = k.sz) (hk : 0 < k.sz)
    (el : ∀ (n : Nat) (cs : List Value) (x : DataW H × List MemPlace), cs.length = k.sz → DataW.trod enc Try.prog W 0 (fun _ => true) true n e cs = some x → ∃ y, k.El (fun _ => True) W cs y)
    (h : DataW.trod enc Try.prog W 0 (fun _ => true) true fuel t cs = some x) : ∃ A n c l, cs = [.slice A n c] ∧ Sx.Rows k (fun _ => True) W A n c l := by
  rcases open_slice ht h with ⟨h0, _⟩ | ⟨a, len, cap, m, n, D, Pl, rfl, _, hl, hm, hmm, _, hx⟩
  · exact ⟨none, 0, 0, [], h0, Sx.Rows.nil _ _ _⟩
  · simp only [if_true] at hmm
    subst hmm
    rw [hc] at hx
    have hspot : 0 < m → a.spot = none := by
      intro hm0
      obtain ⟨cs', h1, _⟩ := hx 0 hm0
      obtain ⟨_, hlen, hcell⟩ := World.cells?_some h1
      have := hcell 0 hk
      rw [List.getElem?_eq_getElem (by omega)] at this
      simpa [Addr.add] using World.cell?_spot this
    obtain ⟨f, hf⟩ := choose_lt (n := m) (p := fun i y => ∃ cs', W.cells? 0 (a.add (i * k.sz)) k.sz = some cs' ∧ k.El (fun _ => True) W cs' y) (fun i hi => by
      obtain ⟨cs', h1, h2⟩ := hx i hi
      obtain ⟨_, hlen, _⟩ := World.cells?_some h1
      obtain ⟨y, hy⟩ := el _ _ _ hlen h2
      exact ⟨y, cs', h1, hy⟩)
    have hpl : ∀ ad : Addr, some a = some ad → 0 < m → ad.spot = none := by
      intro ad h1 h2
      rw [← Option.some.inj h1]
      exact hspot h2
    have hlen : ((List.range len).map f).length = len := by rw [List.length_map, List.length_range]
    refine ⟨some a, len, m, (List.range len).map f, rfl, Sx.Rows.mk hlen hl hm hpl ?_⟩
    intro hn
    obtain ⟨g, off, sp⟩ := a
    have hs := hspot (by omega)
    simp only at hs
    subst hs
    refine ⟨g, off, rfl, ?_, trivial, fun i x hi => ?_⟩
    · obtain ⟨cs', h1, _⟩ := hx 0 (by omega)
      obtain ⟨_, hlen, hcell⟩ := World.cells?_some h1
      have := hcell 0 hk
      rw [List.getElem?_eq_getElem (by omega), add_at, add_at] at this
      exact World.block_lt_of_cell? W _ this
    · obtain ⟨hi1, hi2⟩ := List.getElem?_eq_some_iff.1 hi
      simp only [List.length_map, List.length_range] at hi1
      rw [List.getElem_map, List.getElem_range] at hi2
      subst hi2
      obtain ⟨cs', h1, h2⟩ := hf i (by omega)
      refine ⟨cs', h2, fun j u hu => ?_⟩
      obtain ⟨_, hlen, hcell⟩ := World.cells?_some h1
      obtain ⟨hj1, hj2⟩ := List.getElem?_eq_some_iff.1 hu
      have h3 := hcell j (by omega)
      rw [add_at, add_at] at h3
      rw [h3, ← hj2]
      simp
theorem rd_rowD {fuel : Nat} {cs : List Value} {x : DataW H × List MemPlace} (h : DataW.trod enc Try.prog W 0 (fun _ => true) true fuel 48 cs = some x) : ∃ A n c l, cs = [.slice A n c] ∧ Sx.Rows Sx.kD (fun _ => True) W A n c l :=
  rd_rows Sx.kD Try.underlying48 (by kernel_rfl) (by decide) (fun n cs x hl h => by
    obtain ⟨c0, c1, c2, rfl⟩ : ∃ c0 c1 c2, cs = [c0, c1, c2] := by
      match cs, hl with
      | [c0, c1, c2], _ => exact ⟨c0, c1, c2, rfl⟩
    obtain ⟨y, A, m, c, rfl, rfl, rfl, hr⟩ := rd_dyad h
    exact ⟨y, A, m, c, rfl, hr⟩) h
set_option maxRecDepth 100000 in
theorem rd_ival {fuel : Nat} {cs : List Value} {x : DataW H × List MemPlace} (hl : cs.length = 6) (h : DataW.trod enc Try.prog W 0 (fun _ => true) true fuel 61 cs = some x) : ∃ y, Sx.kI.El (fun _ => True) W cs y := by
  obtain ⟨c0, c1, c2, c3, c4, c5, rfl⟩ : ∃ c0 c1 c2 c3 c4 c5, cs = [c0, c1, c2, c3, c4, c5] := by
    match cs, hl with
    | [c0, c1, c2, c3, c4, c5], _ => exact ⟨c0, c1, c2, c3, c4, c5, rfl⟩
  obtain ⟨y0, y1, n, _, _, t0, t1⟩ := trod_struct2 Try.underlying61 h
  have u0 : DataW.trod enc Try.prog W 0 (fun _ => true) true n 24 (([c0, c1, c2, c3, c4, c5].drop 0).take (Try.prog.cellsOf 24)) = some y0 := t0
  have u1 : DataW.trod enc Try.prog W 0 (fun _ => true) true n 24 (([c0, c1, c2, c3, c4, c5].drop 3).take (Try.prog.cellsOf 24)) = some y1 := t1
  rw [show Try.prog.cellsOf 24 = 3 by kernel_rfl] at u0 u1
  obtain ⟨x, A, m, c, rfl, rfl, rfl, rx⟩ := rd_dyad u0
  obtain ⟨y, B, k, e, rfl, rfl, rfl, ry⟩ := rd_dyad u1
  exact ⟨⟨x, y⟩, A, m, c, B, k, e, rfl, rx, ry⟩
theorem rd_rowI {fuel : Nat} {cs : List Value} {x : DataW H × List MemPlace} (h : DataW.trod enc Try.prog W 0 (fun _ => true) true fuel 45 cs = some x) : ∃ A n c l, cs = [.slice A n c] ∧ Sx.Rows Sx.kI (fun _ => True) W A n c l :=
  rd_rows Sx.kI Try.underlying45 (by kernel_rfl) (by decide) (fun n cs x hl h => rd_ival hl h) h
end
end Go.Proofs.Ytpkfjfpknbhekaa
