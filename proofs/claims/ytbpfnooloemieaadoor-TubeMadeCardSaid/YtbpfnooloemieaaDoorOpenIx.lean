/- What the given arguments read as: intervals. -/
import Derived.Test.YtbpfnooloemieaaDoorOpenx
import Derived.Test.YtbpfnooloemieaaDoorIvAx
namespace Go.Proofs.YtbpfnooloemieaaDoor
open Go.ChangeShapes Go.WideShapes Go.ChangeAt Go.RowKit Go.Deep Pl

section
variable {H : Type} {enc : TypeId × Value → H} {W : World} {r : Reach} {b0 : Nat} {v : Value} {d : DataW H} {ps : List MemPlace}
set_option maxRecDepth 100000 in
theorem rd_dyad {fuel : Nat} {c0 c1 c2 : Value} {x : DataW H × List MemPlace} (h : DataW.trod enc Tryd.prog W 0 (fun _ => true) true fuel 35 [c0, c1, c2] = some x) :
    ∃ (y : Dy) (A : Option Addr) (n c : Nat), c0 = .bool y.neg ∧ c1 = .slice A n c ∧ c2 = .int .i64 y.e ∧ RdD W (.agg #[.bool y.neg, .slice A n c, .int .i64 y.e]) y := by
  obtain ⟨y0, y1, y2, n, _, _, t0, t1, t2⟩ := trod_struct3 Tryd.underlying35 h
  have u0 : DataW.trod enc Tryd.prog W 0 (fun _ => true) true n 4 (([c0, c1, c2].drop 0).take (Tryd.prog.cellsOf 4)) = some y0 := t0
  have u1 : DataW.trod enc Tryd.prog W 0 (fun _ => true) true n 33 (([c0, c1, c2].drop 1).take (Tryd.prog.cellsOf 33)) = some y1 := t1
  have u2 : DataW.trod enc Tryd.prog W 0 (fun _ => true) true n 3 (([c0, c1, c2].drop 2).take (Tryd.prog.cellsOf 3)) = some y2 := t2
  rw [show Tryd.prog.cellsOf 4 = 1 by kernel_rfl] at u0
  rw [show Tryd.prog.cellsOf 33 = 1 by kernel_rfl] at u1
  rw [show Tryd.prog.cellsOf 3 = 1 by kernel_rfl] at u2
  obtain ⟨A, m, c, xs, hcs, hr, hl⟩ := rd_nat u1
  obtain ⟨b, hb, _⟩ := DataW.trod_bool Tryd.underlying4 u0
  obtain ⟨e, he, _, hw⟩ := DataW.trod_int Tryd.underlying3 u2
  injection hb with hb
  injection hcs with hcs
  injection he with he
  obtain ⟨e1, e2⟩ := bounds_i64 hw
  exact ⟨⟨b, xs, e⟩, A, m, c, hb, hcs, he, A, m, c, rfl, hr, hl, e1, e2⟩
set_option maxRecDepth 100000 in
theorem open_ival (hval : Value.okWide Tryd.prog W r b0 37 v) (h : DataW.Trod enc Tryd.prog W 0 (fun _ => true) true 37 v d ps) : ∃ x, RdI W v x := by
  obtain ⟨cs, rfl, hsz⟩ := okWide_struct Tryd.underlying37 hval
  rw [show Tryd.prog.cellsOf 37 = 6 by kernel_rfl] at hsz
  obtain ⟨fuel, hf⟩ := h
  obtain ⟨l⟩ := cs
  obtain ⟨c0, c1, c2, c3, c4, c5, rfl⟩ : ∃ c0 c1 c2 c3 c4 c5, l = [c0, c1, c2, c3, c4, c5] := by
    match l, hsz with
    | [c0, c1, c2, c3, c4, c5], _ => exact ⟨c0, c1, c2, c3, c4, c5, rfl⟩
  obtain ⟨y0, y1, n, _, _, t0, t1⟩ := trod_struct2 Tryd.underlying37 hf
  have u0 : DataW.trod enc Tryd.prog W 0 (fun _ => true) true n 35 (([c0, c1, c2, c3, c4, c5].drop 0).take (Tryd.prog.cellsOf 35)) = some y0 := t0
  have u1 : DataW.trod enc Tryd.prog W 0 (fun _ => true) true n 35 (([c0, c1, c2, c3, c4, c5].drop 3).take (Tryd.prog.cellsOf 35)) = some y1 := t1
  rw [show Tryd.prog.cellsOf 35 = 3 by kernel_rfl] at u0 u1
  obtain ⟨x, A, m, c, rfl, rfl, rfl, rx⟩ := rd_dyad u0
  obtain ⟨y, B, k, e, rfl, rfl, rfl, ry⟩ := rd_dyad u1
  exact ⟨⟨x, y⟩, mkI rx ry⟩
end
end Go.Proofs.YtbpfnooloemieaaDoor
