/- What the given arguments read as: naturals, Dyads. -/
import Derived.Test.YtbpfnooloemieaaGreatDoorDyAx
import Derived.Test.YtbpfnooloemieaaGreatDoorRowx
import Derived.Lib.SmallJoins
import Derived.Carry
namespace Go.Proofs.YtbpfnooloemieaaGreatDoor
open Go.ChangeShapes Go.WideShapes Go.ChangeAt Go.RowKit Pl

theorem laidOutA : laidOutB Tryz.prog = true := by kernel_rfl
section
variable {H : Type} {enc : TypeId × Value → H} {W : World} {r : Reach} {b0 : Nat} {v : Value} {d : DataW H} {ps : List MemPlace}
theorem places_lt {t : TypeId} (h : DataW.Trod enc Tryz.prog W 0 (fun _ => true) true t v d ps) : ∀ x ∈ ps, x.block < W.heap.size := by
  obtain ⟨m, hm⟩ := h
  exact DataW.trod_lt m _ _ _ hm
theorem keep_arg {t : TypeId} (hr : Tryz.prog.readableRec t = true) (ht : t < Tryz.prog.types.size) {W' : World} (h : DataW.Trod enc Tryz.prog W 0 (fun _ => true) true t v d ps) (hb : Below W.heap.size W W') :
    DataW.Trod enc Tryz.prog W' 0 (fun b => decide (b < W.heap.size)) true t v d ps := Below.trod laidOutA hr ht h hb (places_lt h)
theorem rd_nat {fuel : Nat} {cs : List Value} {x : DataW H × List MemPlace} (h : DataW.trod enc Tryz.prog W 0 (fun _ => true) true fuel 28 cs = some x) : ∃ A n c xs, cs = [.slice A n c] ∧ RdN .u64 W A n c xs ∧ Lim BB xs := by
  rcases open_ints Tryz.underlying28 Tryz.underlying50 (by kernel_rfl) h with ⟨hcs, _⟩ | ⟨a, l, c, zs, hcs, _, hl, hm, hz, _, hcell, hwz⟩
  · exact ⟨none, 0, 0, [], hcs, RdN.nil _ _, Lim.nil⟩
  · simp at hz
    have hpos : ∀ z ∈ zs, 0 ≤ z ∧ z ≤ 18446744073709551615 := fun z hz => bounds_u64 (hwz z hz)
    refine ⟨some a, l, c, (zs.take l).map Int.toNat, hcs, ⟨by simp; omega, hl, hm, fun h0 => ?_⟩, ?_⟩
    · obtain ⟨b, off, spot⟩ := a
      have hc := hcell 0 (by omega)
      have hspot : spot = none := by simpa [Addr.add] using World.cell?_spot hc
      subst hspot
      refine ⟨b, off, rfl, ?_, fun k hk => ?_⟩
      · exact World.block_lt_of_cell? W _ hc
      · have h1 := hcell k (by omega)
        have h2 : (zs.getD k 0) = ((nth ((zs.take l).map Int.toNat) k : Nat) : Int) := by
          have hkz : k < zs.length := by omega
          simp [nth, List.getD_eq_getElem?_getD, hk, hkz]
          have := hpos zs[k] (List.getElem_mem hkz)
          omega
        rw [← h2]
        have hadd : (⟨b, off, none⟩ : Addr).add k = ⟨b, off + k, none⟩ := by unfold Addr.add; split <;> simp_all
        rw [hadd] at h1
        exact h1
    · intro y hy
      obtain ⟨z, hz1, rfl⟩ := List.mem_map.1 hy
      have := hpos z (List.mem_of_mem_take hz1)
      unfold BB
      omega
set_option maxRecDepth 100000 in
theorem open_dyad (hval : Value.okWide Tryz.prog W r b0 30 v) (h : DataW.Trod enc Tryz.prog W 0 (fun _ => true) true 30 v d ps) : ∃ x, RdD W v x := by
  obtain ⟨v0, v1, v2, y0, y1, y2, n, rfl, _, _, t0, t1, t2⟩ := Go.Joins.open_agg3 Tryz.underlying30 (by kernel_rfl) (by kernel_rfl) hval h
  obtain ⟨A, m, c, xs, hcs, hr, hl⟩ := rd_nat t1
  obtain ⟨b, hb, _⟩ := DataW.trod_bool Tryz.underlying4 t0
  obtain ⟨e, he, _, hw⟩ := DataW.trod_int Tryz.underlying3 t2
  injection hb with hb
  injection hcs with hcs
  injection he with he
  subst hb hcs he
  obtain ⟨e1, e2⟩ := bounds_i64 hw
  exact ⟨⟨b, xs, e⟩, A, m, c, rfl, hr, hl, e1, e2⟩
end
end Go.Proofs.YtbpfnooloemieaaGreatDoor
