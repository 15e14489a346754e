/- What the given arguments read as: intervals. -/
import Derived.Test.YtpkfjfpknbhekaaOpenx
import Derived.Test.YtpkfjfpknbhekaaIvAx
namespace Go.Proofs.Ytpkfjfpknbhekaa
open Go.ChangeShapes Go.WideShapes Go.ChangeAt Go.RowKit Go.Deep Pl

section
variable {H : Type} {enc : TypeId × Value → H} {W : World} {r : Reach} {b0 : Nat} {v : Value} {d : DataW H} {ps : List MemPlace}
set_option maxRecDepth 100000 in
theorem rd_dyad {fuel : Nat} {c0 c1 c2 : Value} {x : DataW H × List MemPlace} (h : DataW.trod enc Try.prog W 0 (fun _ => true) true fuel 24 [c0, c1, c2] = some x) :
    ∃ (y : Dy) (A : Option Addr) (n c : Nat), c0 = .bool y.neg ∧ c1 = .slice A n c ∧ c2 = .int .i64 y.e ∧ RdD W (.agg #[.bool y.neg, .slice A n c, .int .i64 y.e]) y := by
  obtain ⟨y0, y1, y2, n, _, _, t0, t1, t2⟩ := trod_struct3 Try.underlying24 h
  have u0 : DataW.trod enc Try.prog W 0 (fun _ => true) true n 4 (([c0, c1, c2].drop 0).take (Try.prog.cellsOf 4)) = some y0 := t0
  have u1 : DataW.trod enc Try.prog W 0 (fun _ => true) true n 22 (([c0, c1, c2].drop 1).take (Try.prog.cellsOf 22)) = some y1 := t1
  have u2 : DataW.trod enc Try.prog W 0 (fun _ => true) true n 3 (([c0, c1, c2].drop 2).take (Try.prog.cellsOf 3)) = some y2 := t2
  rw [show Try.prog.cellsOf 4 = 1 by kernel_rfl] at u0
  rw [show Try.prog.cellsOf 22 = 1 by kernel_rfl] at u1
  rw [show Try.prog.cellsOf 3 = 1 by kernel_rfl] at u2
  obtain ⟨A, m, c, xs, hcs, hr, hl⟩ := rd_nat u1
  obtain ⟨b, hb, _⟩ := DataW.trod_bool Try.underlying4 u0
  obtain ⟨e, he, _, hw⟩ := DataW.trod_int Try.underlying3 u2
  injection hb with hb
  injection hcs with hcs
  injection he with he
  obtain ⟨e1, e2⟩ := bounds_i64 hw
  exact ⟨⟨b, xs, e⟩, A, m, c, hb, hcs, he, A, m, c, rfl, hr, hl, e1, e2⟩
end
end Go.Proofs.Ytpkfjfpknbhekaa
