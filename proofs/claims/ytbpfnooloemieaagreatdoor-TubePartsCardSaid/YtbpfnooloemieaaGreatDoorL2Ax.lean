/- sluicewaylaw2: Few, told. Printed by wip/mk_L2A.py. sluicewaylaw2: the walk of DyadRing. Printed by wip/mk_L2B.py. -/
import Derived.Test.YtbpfnooloemieaaGreatDoorDyMx
import Derived.Test.YtbpfnooloemieaaGreatDoorRfBx
namespace Go.Proofs.YtbpfnooloemieaaGreatDoor
open Go.RowKit Pl

/-- One limb, and where it lies. -/
theorem RdD.one {w : World} {d : Dy} {A : Option Addr} {n c x : Nat} (h : RdD w (.agg #[.bool d.neg, .slice A n c, .int .i64 d.e]) d) (hm : d.m = [x]) : ∃ b off, A = some ⟨b, off, none⟩ ∧ n = 1 ∧ w.cell? ⟨b, off, none⟩ = some (.int .u64 (x : Int)) ∧ n ≤ c ∧ c ≤ 9223372036854775807 := by
  obtain ⟨A', n', c', e, hr, _⟩ := h
  injection e with e
  have := congrArg Array.toList e
  simp only [List.cons.injEq, Value.slice.injEq, and_true, true_and] at this
  obtain ⟨rfl, rfl, rfl⟩ := this
  have hl := hr.len
  rw [hm] at hl hr
  obtain rfl : n = 1 := hl.symm
  obtain ⟨b, off, rfl, _, hc⟩ := hr.at_ (by omega)
  have h0 := hc 0 (by omega)
  have hmx := hr.max
  unfold maxLen at hmx
  exact ⟨b, off, rfl, rfl, by rw [Nat.add_zero] at h0; exact h0, hr.cap, by omega⟩

end Go.Proofs.YtbpfnooloemieaaGreatDoor
namespace Go.Proofs.YtbpfnooloemieaaGreatDoor
open Go.RowKit Pl

theorem RdD.lim {w : World} {v : Value} {d : Dy} (h : RdD w v d) : Lim BB d.m := by obtain ⟨A, n, c, _, _, hl, _⟩ := h; exact hl
theorem RdD.few {w : World} {d : Dy} {A : Option Addr} {n c : Nat} (h : RdD w (.agg #[.bool d.neg, .slice A n c, .int .i64 d.e]) d) : d.m.length = n := by
  obtain ⟨A', n', c', e, hr, _⟩ := h
  injection e with e
  have := congrArg Array.toList e
  simp only [List.cons.injEq, Value.slice.injEq, and_true, true_and] at this
  obtain ⟨rfl, rfl, rfl⟩ := this
  exact hr.len
end Go.Proofs.YtbpfnooloemieaaGreatDoor
