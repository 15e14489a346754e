/- sluicewaylaw22: BoundGrows. -/
import Derived.Test.YtdnknokhcliikaaDoorBdC
namespace Go.Proofs.YtdnknokhcliikaaDoor
open Go.RowKit Pl

theorem rounds_grow {r s : Int} (h1 : 0 ≤ r) (h2 : r < 1000) (h3 : 0 ≤ s) (h4 : s < 16) :
    roundsS (r + 1) s - roundsS r s = 10 * (s + 1) ∧ roundsS r (s + 1) - roundsS r s = 10 * r ∧ roundsS 0 s = 40 ∧ 0 ≤ roundsS r s ∧ roundsS r s ≤ 1000000 ∧ 0 ≤ roundsS (r + 1) s ∧ roundsS (r + 1) s ≤ 1000000 ∧ 0 ≤ roundsS r (s + 1) ∧ roundsS r (s + 1) ≤ 1000000 := by
  have e1 : min (max r 0) 100000 = r := by omega
  have e2 : min (max (r + 1) 0) 100000 = r + 1 := by omega
  have e3 : min (max s 0) 16 = s := by omega
  have e4 : min (max (s + 1) 0) 16 = s + 1 := by omega
  have m1 : (r + 1) * s = r * s + s := by rw [Int.add_mul, Int.one_mul]
  have m2 : r * (s + 1) = r * s + r := by rw [Int.mul_add, Int.mul_one]
  have m3 : 0 ≤ r * s := Int.mul_nonneg h1 h3
  have m4 : r * s ≤ 1000 * 16 := Int.mul_le_mul (by omega) (by omega) h3 (by omega)
  unfold roundsS
  rw [e1, e2, e3, e4, m1, m2]
  simp only [show max (0 : Int) 0 = 0 from rfl]
  refine ⟨by omega, by omega, by rw [show min (0 : Int) 100000 = 0 by omega]; simp, by omega, by omega, by omega, by omega, by omega, by omega⟩

set_option maxRecDepth 100000 in
set_option maxHeartbeats 4000000 in
theorem grows_any (r s : Int) (w : World) (hT : TabAt w) :
    Calls Tryd.prog 4 #[.int .i64 r, .int .i64 s] w fun x w' => x = .returned (.bool true) ∧ Below w.heap.size w w' := by
  go_enter Tryd.func4, Tryd.ntmps4
  go_upto_region 2 with fail
  obtain ⟨a, ha⟩ : ∃ a, a = wrap64 ((IntKind.u64.wrap r).tmod 1000) := ⟨_, rfl⟩
  obtain ⟨b, hb⟩ : ∃ b, b = wrap64 ((IntKind.u64.wrap s).tmod 16) := ⟨_, rfl⟩
  rw [← ha, ← hb]
  have u1 : IntKind.u64.wrap r = r % 18446744073709551616 := rfl
  have u2 : IntKind.u64.wrap s = s % 18446744073709551616 := rfl
  have ha2 : 0 ≤ a ∧ a < 1000 := by
    rw [ha, u1, Int.tmod_eq_emod_of_nonneg (by omega), IntWalk.wrap64_in _ (by omega)]
    omega
  have hb2 : 0 ≤ b ∧ b < 16 := by
    rw [hb, u2, Int.tmod_eq_emod_of_nonneg (by omega), IntWalk.wrap64_in _ (by omega)]
    omega
  clear ha hb u1 u2
  obtain ⟨g1, g2, g3, g4, g5, g6, g7, g8, g9⟩ := rounds_grow ha2.1 ha2.2 hb2.1 hb2.2
  have k1 : wrap64 (a + 1) = a + 1 := IntWalk.wrap64_in _ (by omega)
  have k2 : wrap64 (b + 1) = b + 1 := IntWalk.wrap64_in _ (by omega)
  have k3 : wrap64 (roundsS (a + 1) b - roundsS a b) = 10 * (b + 1) := by rw [IntWalk.wrap64_in _ (by omega), g1]
  have k4 : wrap64 (roundsS a (b + 1) - roundsS a b) = 10 * a := by rw [IntWalk.wrap64_in _ (by omega), g2]
  have k5 : wrap64 (10 * (b + 1)) = 10 * (b + 1) := IntWalk.wrap64_in _ (by omega)
  have k6 : wrap64 (10 * a) = 10 * a := IntWalk.wrap64_in _ (by omega)
  clear g1 g2 g4 g5 g6 g7 g8 g9 ha2 hb2
  go_wp2_with (first
    | (go_at_call 14; (with_reducible refine (rounds_any _ _ _).mono ?_); rintro e w' ⟨rfl, rfl⟩)
    | (go_at_call 13; (with_reducible refine (told_any _ ?_).mono ?_); (first | exact hT | exact hT.drew); rintro e w' ⟨rfl, hb2⟩))
  trace_state
  go_ret
  exact ⟨rfl, hb2⟩
end Go.Proofs.YtdnknokhcliikaaDoor
