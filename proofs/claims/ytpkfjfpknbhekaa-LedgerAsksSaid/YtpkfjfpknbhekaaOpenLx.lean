/- What the given arguments read as: records, rows of records, bytes. What the given arguments read as: bytes. -/
import Derived.Test.YtpkfjfpknbhekaaOpenRx
import Derived.Test.YtpkfjfpknbhekaaWrMx
namespace Go.Proofs.Ytpkfjfpknbhekaa
open Go.ChangeShapes Go.WideShapes Go.ChangeAt Go.RowKit Go.Deep Pl
instance : Inhabited Tb := ⟨⟨[], []⟩⟩
instance : Inhabited Rec := ⟨⟨0, 0, 0, Dy.zero, Dy.zero, [], []⟩⟩
theorem trod_struct7 {P : Program} {H : Type} {enc : TypeId × Value → H} {w : World} {base : Nat} {spare : Nat → Bool} {held : Bool} {t : TypeId} {f0 f1 f2 f3 f4 f5 f6 : Field} {fuel : Nat} {cs : List Value} {x : DataW H × List MemPlace} (ht : P.underlying t = some (.struct #[f0, f1, f2, f3, f4, f5, f6])) (h : DataW.trod enc P w base spare held fuel t cs = some x) :
    ∃ y0 y1 y2 y3 y4 y5 y6 n, DataW.trod enc P w base spare held n f0.type ((cs.drop f0.offset).take (P.cellsOf f0.type)) = some y0 ∧
      DataW.trod enc P w base spare held n f1.type ((cs.drop f1.offset).take (P.cellsOf f1.type)) = some y1 ∧ DataW.trod enc P w base spare held n f2.type ((cs.drop f2.offset).take (P.cellsOf f2.type)) = some y2 ∧
      DataW.trod enc P w base spare held n f3.type ((cs.drop f3.offset).take (P.cellsOf f3.type)) = some y3 ∧ DataW.trod enc P w base spare held n f4.type ((cs.drop f4.offset).take (P.cellsOf f4.type)) = some y4 ∧
      DataW.trod enc P w base spare held n f5.type ((cs.drop f5.offset).take (P.cellsOf f5.type)) = some y5 ∧ DataW.trod enc P w base spare held n f6.type ((cs.drop f6.offset).take (P.cellsOf f6.type)) = some y6 := by
  obtain ⟨xs, n, _, rfl, hl, hlen, hf⟩ := DataW.trod_struct ht h
  match xs, hlen with
  | [y0, y1, y2, y3, y4, y5, y6], _ => exact ⟨y0, y1, y2, y3, y4, y5, y6, n, by simpa using hf 0 f0 rfl, by simpa using hf 1 f1 rfl, by simpa using hf 2 f2 rfl, by simpa using hf 3 f3 rfl, by simpa using hf 4 f4 rfl, by simpa using hf 5 f5 rfl, by simpa using hf 6 f6 rfl⟩
section
variable {H : Type} {enc : TypeId × Value → H} {W : World} {r : Reach} {b0 : Nat} {v : Value} {d : DataW H} {ps : List MemPlace}
set_option maxRecDepth 100000 in
theorem rd_tube {fuel : Nat} {cs : List Value} {x : DataW H × List MemPlace} (hl : cs.length = 2) (h : DataW.trod enc Try.prog W 0 (fun _ => true) true fuel 50 cs = some x) : ∃ y, Sx.kT.El (fun _ => True) W cs y := by
  obtain ⟨c0, c1, rfl⟩ : ∃ c0 c1, cs = [c0, c1] := by
    match cs, hl with
    | [c0, c1], _ => exact ⟨c0, c1, rfl⟩
  obtain ⟨y0, y1, n, _, _, t0, t1⟩ := trod_struct2 Try.underlying50 h
  have u0 : DataW.trod enc Try.prog W 0 (fun _ => true) true n 48 (([c0, c1].drop 0).take (Try.prog.cellsOf 48)) = some y0 := t0
  have u1 : DataW.trod enc Try.prog W 0 (fun _ => true) true n 45 (([c0, c1].drop 1).take (Try.prog.cellsOf 45)) = some y1 := t1
  rw [show Try.prog.cellsOf 48 = 1 by kernel_rfl] at u0
  rw [show Try.prog.cellsOf 45 = 1 by kernel_rfl] at u1
  obtain ⟨A, m, c, xs, hx, hr⟩ := rd_rowD u0
  obtain ⟨B, k, e, ys, hy, hs⟩ := rd_rowI u1
  have hx2 : [c0] = [.slice A m c] := hx
  have hy2 : [c1] = [.slice B k e] := hy
  injection hx2 with hx3
  injection hy2 with hy3
  subst hx3 hy3
  exact ⟨⟨xs, ys⟩, A, m, c, B, k, e, rfl, hr, hs⟩
theorem rd_rowT {fuel : Nat} {cs : List Value} {x : DataW H × List MemPlace} (h : DataW.trod enc Try.prog W 0 (fun _ => true) true fuel 46 cs = some x) : ∃ A n c l, cs = [.slice A n c] ∧ Sx.Rows Sx.kT (fun _ => True) W A n c l :=
  rd_rows Sx.kT Try.underlying46 (by kernel_rfl) (by decide) (fun n cs x hl h => rd_tube hl h) h
theorem rd_rowLI {fuel : Nat} {cs : List Value} {x : DataW H × List MemPlace} (h : DataW.trod enc Try.prog W 0 (fun _ => true) true fuel 25 cs = some x) : ∃ A n c l, cs = [.slice A n c] ∧ Sx.Rows (Sx.kL Sx.kI) (fun _ => True) W A n c l :=
  rd_rows (Sx.kL Sx.kI) Try.underlying25 (by kernel_rfl) (by decide) (fun n cs x hl h => by
    obtain ⟨A, m, c, l, rfl, hr⟩ := rd_rowI h
    obtain rfl := hr.len
    exact ⟨l, A, c, rfl, hr⟩) h
theorem rd_rowLT {fuel : Nat} {cs : List Value} {x : DataW H × List MemPlace} (h : DataW.trod enc Try.prog W 0 (fun _ => true) true fuel 26 cs = some x) : ∃ A n c l, cs = [.slice A n c] ∧ Sx.Rows (Sx.kL Sx.kT) (fun _ => True) W A n c l :=
  rd_rows (Sx.kL Sx.kT) Try.underlying26 (by kernel_rfl) (by decide) (fun n cs x hl h => by
    obtain ⟨A, m, c, l, rfl, hr⟩ := rd_rowT h
    obtain rfl := hr.len
    exact ⟨l, A, c, rfl, hr⟩) h
set_option maxRecDepth 100000 in
theorem rd_rec {fuel : Nat} {cs : List Value} {x : DataW H × List MemPlace} (hl : cs.length = 11) (h : DataW.trod enc Try.prog W 0 (fun _ => true) true fuel 28 cs = some x) : ∃ y, Sx.kRec.El (fun _ => True) W cs y := by
  obtain ⟨c0, c1, c2, c3, c4, c5, c6, c7, c8, c9, c10, rfl⟩ : ∃ c0 c1 c2 c3 c4 c5 c6 c7 c8 c9 c10, cs = [c0, c1, c2, c3, c4, c5, c6, c7, c8, c9, c10] := by
    match cs, hl with
    | [c0, c1, c2, c3, c4, c5, c6, c7, c8, c9, c10], _ => exact ⟨c0, c1, c2, c3, c4, c5, c6, c7, c8, c9, c10, rfl⟩
  obtain ⟨y0, y1, y2, y3, y4, y5, y6, n, t0, t1, t2, t3, t4, t5, t6⟩ := trod_struct7 Try.underlying28 h
  have u0 : DataW.trod enc Try.prog W 0 (fun _ => true) true n 3 (([c0, c1, c2, c3, c4, c5, c6, c7, c8, c9, c10].drop 0).take (Try.prog.cellsOf 3)) = some y0 := t0
  have u1 : DataW.trod enc Try.prog W 0 (fun _ => true) true n 3 (([c0, c1, c2, c3, c4, c5, c6, c7, c8, c9, c10].drop 1).take (Try.prog.cellsOf 3)) = some y1 := t1
  have u2 : DataW.trod enc Try.prog W 0 (fun _ => true) true n 3 (([c0, c1, c2, c3, c4, c5, c6, c7, c8, c9, c10].drop 2).take (Try.prog.cellsOf 3)) = some y2 := t2
  have u3 : DataW.trod enc Try.prog W 0 (fun _ => true) true n 24 (([c0, c1, c2, c3, c4, c5, c6, c7, c8, c9, c10].drop 3).take (Try.prog.cellsOf 24)) = some y3 := t3
  have u4 : DataW.trod enc Try.prog W 0 (fun _ => true) true n 24 (([c0, c1, c2, c3, c4, c5, c6, c7, c8, c9, c10].drop 6).take (Try.prog.cellsOf 24)) = some y4 := t4
  have u5 : DataW.trod enc Try.prog W 0 (fun _ => true) true n 25 (([c0, c1, c2, c3, c4, c5, c6, c7, c8, c9, c10].drop 9).take (Try.prog.cellsOf 25)) = some y5 := t5
  have u6 : DataW.trod enc Try.prog W 0 (fun _ => true) true n 26 (([c0, c1, c2, c3, c4, c5, c6, c7, c8, c9, c10].drop 10).take (Try.prog.cellsOf 26)) = some y6 := t6
  rw [show Try.prog.cellsOf 3 = 1 by kernel_rfl] at u0 u1 u2
  rw [show Try.prog.cellsOf 24 = 3 by kernel_rfl] at u3 u4
  rw [show Try.prog.cellsOf 25 = 1 by kernel_rfl] at u5
  rw [show Try.prog.cellsOf 26 = 1 by kernel_rfl] at u6
  obtain ⟨z0, e0, _, _⟩ := DataW.trod_int Try.underlying3 u0
  obtain ⟨z1, e1, _, _⟩ := DataW.trod_int Try.underlying3 u1
  obtain ⟨z2, e2, _, _⟩ := DataW.trod_int Try.underlying3 u2
  have f0 : [c0] = [.int .i64 z0] := e0
  have f1 : [c1] = [.int .i64 z1] := e1
  have f2 : [c2] = [.int .i64 z2] := e2
  injection f0 with g0
  injection f1 with g1
  injection f2 with g2
  obtain ⟨x3, A, m, c, rfl, rfl, rfl, r3⟩ := rd_dyad u3
  obtain ⟨x4, B, k, e, rfl, rfl, rfl, r4⟩ := rd_dyad u4
  obtain ⟨X, p, s, bx, hx, hr⟩ := rd_rowLI u5
  obtain ⟨Y, q, t, sg, hy, hs⟩ := rd_rowLT u6
  have hx2 : [c9] = [.slice X p s] := hx
  have hy2 : [c10] = [.slice Y q t] := hy
  injection hx2 with hx3
  injection hy2 with hy3
  subst g0 g1 g2 hx3 hy3
  obtain rfl := hr.len
  obtain rfl := hs.len
  exact ⟨⟨z0, z1, z2, x3, x4, bx, sg⟩, A, m, c, B, k, e, X, s, Y, t, rfl, r3, r4, hr, hs⟩
set_option maxRecDepth 100000 in
theorem open_rec (hval : Value.okWide Try.prog W r b0 28 v) (h : DataW.Trod enc Try.prog W 0 (fun _ => true) true 28 v d ps) : ∃ x : Rec, RcAt (fun _ => True) W v x := by
  obtain ⟨cs, rfl, hsz⟩ := okWide_struct Try.underlying28 hval
  rw [show Try.prog.cellsOf 28 = 11 by kernel_rfl] at hsz
  obtain ⟨fuel, hf⟩ := h
  obtain ⟨l⟩ := cs
  obtain ⟨y, A, m, c, B, k, e, X, s, Y, t, hc, r3, r4, hr, hs⟩ := rd_rec (cs := l) hsz hf
  subst hc
  exact ⟨y, mkRc r3 r4 hr hs⟩
end
end Go.Proofs.Ytpkfjfpknbhekaa
namespace Go.Proofs.Ytpkfjfpknbhekaa
open Go.ChangeShapes Go.WideShapes Go.ChangeAt Go.RowKit Go.Deep Pl
section
variable {H : Type} {enc : TypeId × Value → H} {W : World} {r : Reach} {b0 : Nat} {v : Value} {d : DataW H} {ps : List MemPlace}
theorem rd_bytes {fuel : Nat} {cs : List Value} {x : DataW H × List MemPlace} (h : DataW.trod enc Try.prog W 0 (fun _ => true) true fuel 29 cs = some x) : ∃ A n c xs, cs = [.slice A n c] ∧ RdN .u8 W A n c xs ∧ ∀ y ∈ xs, y < 256 := by
  rcases open_ints Try.underlying29 Try.underlying5 (by kernel_rfl) h with ⟨hcs, _⟩ | ⟨a, l, c, zs, hcs, _, hl, hm, hz, _, hcell, hwz⟩
  · exact ⟨none, 0, 0, [], hcs, RdN.nil _ _, fun _ h => (by cases h)⟩
  · simp at hz
    have hpos : ∀ z ∈ zs, 0 ≤ z ∧ z ≤ 255 := fun z hz => bounds_u8 (hwz z hz)
    refine ⟨some a, l, c, (zs.take l).map Int.toNat, hcs, ⟨by simp; omega, hl, hm, fun h0 => ?_⟩, ?_⟩
    · obtain ⟨b, off, spot⟩ := a
      have hc := hcell 0 (by omega)
      have hspot : spot = none := by simpa [Addr.add] using World.cell?_spot hc
      subst hspot
      refine ⟨b, off, rfl, ?_, fun k hk => ?_⟩
      · exact World.block_lt_of_cell? W _ hc
      · have h1 := hcell k (by omega)
        have h2 : (zs.getD k 0) = ((nth ((zs.take l).map Int.toNat) k : Nat) : Int) := by
          have hkz : k < zs.length := by omega
          simp [nth, List.getD_eq_getElem?_getD, hk, hkz]
          have := hpos zs[k] (List.getElem_mem hkz)
          omega
        rw [← h2]
        have hadd : (⟨b, off, none⟩ : Addr).add k = ⟨b, off + k, none⟩ := by unfold Addr.add; split <;> simp_all
        rw [hadd] at h1
        exact h1
    · intro y hy
      obtain ⟨z, hz1, rfl⟩ := List.mem_map.1 hy
      have := hpos z (List.mem_of_mem_take hz1)
      omega
set_option maxRecDepth 100000 in
theorem open_bytes (hval : Value.okWide Try.prog W r b0 29 v) (h : DataW.Trod enc Try.prog W 0 (fun _ => true) true 29 v d ps) : ∃ A c xs, v = .slice A xs.length c ∧ RdN .u8 W A xs.length c xs ∧ ∀ y ∈ xs, y < 256 := by
  obtain ⟨a, l, c, rfl⟩ := okWide_slice Try.underlying29 hval
  obtain ⟨fuel, hf⟩ := h
  obtain ⟨A, n, c', xs, hcs, hr, hl⟩ := rd_bytes hf
  simp [Value.cells] at hcs
  obtain ⟨rfl, rfl, rfl⟩ := hcs
  obtain rfl := hr.len
  exact ⟨_, _, xs, rfl, hr, hl⟩
end
end Go.Proofs.Ytpkfjfpknbhekaa
