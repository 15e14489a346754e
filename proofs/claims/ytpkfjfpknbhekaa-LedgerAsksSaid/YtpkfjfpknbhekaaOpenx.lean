/- What the given arguments read as: naturals, Dyads. -/
import Derived.Test.YtpkfjfpknbhekaaDyAx
import Derived.Test.YtpkfjfpknbhekaaRowx
import Derived.Lib.SmallJoins
import Derived.Carry
namespace Go.Proofs.Ytpkfjfpknbhekaa
open Go.ChangeShapes Go.WideShapes Go.ChangeAt Go.RowKit Pl

theorem laidOutA : laidOutB Try.prog = true := by kernel_rfl
section
variable {H : Type} {enc : TypeId × Value → H} {W : World} {r : Reach} {b0 : Nat} {v : Value} {d : DataW H} {ps : List MemPlace}
theorem places_lt {t : TypeId} (h : DataW.Trod enc Try.prog W 0 (fun _ => true) true t v d ps) : ∀ x ∈ ps, x.block < W.heap.size := by
  obtain ⟨m, hm⟩ := h
  exact DataW.trod_lt m _ _ _ hm
theorem keep_arg {t : TypeId} (hr : Try.prog.readableRec t = true) (ht : t < Try.prog.types.size) {W' : World} (h : DataW.Trod enc Try.prog W 0 (fun _ => true) true t v d ps) (hb : Below W.heap.size W W') :
    DataW.Trod enc Try.prog W' 0 (fun b => decide (b < W.heap.size)) true t v d ps := Below.trod laidOutA hr ht h hb (places_lt h)
theorem rd_nat {fuel : Nat} {cs : List Value} {x : DataW H × List MemPlace} (h : DataW.trod enc Try.prog W 0 (fun _ => true) true fuel 22 cs = some x) : ∃ A n c xs, cs = [.slice A n c] ∧ RdN .u64 W A n c xs ∧ Lim BB xs := by
  rcases open_ints Try.underlying22 Try.underlying51 (by kernel_rfl) h with ⟨hcs, _⟩ | ⟨a, l, c, zs, hcs, _, hl, hm, hz, _, hcell, hwz⟩
  · exact ⟨none, 0, 0, [], hcs, RdN.nil _ _, Lim.nil⟩
  · simp at hz
    have hpos : ∀ z ∈ zs, 0 ≤ z ∧ z ≤ 18446744073709551615 := fun z hz => bounds_u64 (hwz z hz)
    refine ⟨some a, l, c, (zs.take l).map Int.toNat, hcs, ⟨by simp; omega, hl, hm, fun h0 => ?_⟩, ?_⟩
    · obtain ⟨b, off, spot⟩ := a
      have hc := hcell 0 (by omega)
      have hspot : spot = none := by simpa [Addr.add] using World.cell?_spot hc
      subst hspot
      refine ⟨b, off, rfl, ?_, fun k hk => ?_⟩
      · exact World.block_lt_of_cell? W _ hc
      · have h1 := hcell k (by omega)
        have h2 : (zs.getD k 0) = ((nth ((zs.take l).map Int.toNat) k : Nat) : Int) := by
          have hkz : k < zs.length := by omega
          simp [nth, List.getD_eq_getElem?_getD, hk, hkz]
          have := hpos zs[k] (List.getElem_mem hkz)
          omega
        rw [← h2]
        have hadd : (⟨b, off, none⟩ : Addr).add k = ⟨b, off + k, none⟩ := by unfold Addr.add; split <;> simp_all
        rw [hadd] at h1
        exact h1
    · intro y hy
      obtain ⟨z, hz1, rfl⟩ := List.mem_map.1 hy
      have := hpos z (List.mem_of_mem_take hz1)
      unfold BB
      omega
end
end Go.Proofs.Ytpkfjfpknbhekaa
