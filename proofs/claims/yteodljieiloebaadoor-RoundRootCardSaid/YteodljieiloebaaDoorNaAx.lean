/- sluicewaylaw1: Few, Same, is, told. sluicewaylaw1: told. -/
import Derived.Test.YteodljieiloebaaDoorNatGx
import Derived.Test.YteodljieiloebaaDoorRfHx
namespace Go.Proofs.YteodljieiloebaaDoor
open Go.RowKit Pl

end Go.Proofs.YteodljieiloebaaDoor
namespace Go.Proofs.YteodljieiloebaaDoor
open Go.RowKit Pl

theorem rd1 {W : World} {b x : Nat} (hb : b < W.heap.size) (hc : W.cell? ⟨b, 0, none⟩ = some (.int .u64 (x : Int))) : RdN .u64 W (some ⟨b, 0, none⟩) 1 1 [x] :=
  ⟨rfl, Nat.le_refl _, by decide, fun _ => ⟨b, 0, rfl, hb, fun k hk => by
    obtain rfl : k = 0 := by omega
    exact hc⟩⟩
theorem rd2 {W : World} {b x y : Nat} (hb : b < W.heap.size) (hc : W.cell? ⟨b, 0, none⟩ = some (.int .u64 (x : Int))) (hd : W.cell? ⟨b, 1, none⟩ = some (.int .u64 (y : Int))) : RdN .u64 W (some ⟨b, 0, none⟩) 2 2 [x, y] :=
  ⟨rfl, Nat.le_refl _, by decide, fun _ => ⟨b, 0, rfl, hb, fun k hk => by
    obtain rfl | rfl : k = 0 ∨ k = 1 := by omega
    · exact hc
    · exact hd⟩⟩
theorem limbs1 {x : Nat} (h0 : 0 < x) (h : x < BB) : limbs BB x = [x] := limbs_of BB_gt1 (Lim.cons h Lim.nil) (by simp [Cnl]; omega) (by simp [val])
theorem R64.one {W : World} {b x : Nat} (h0 : 0 < x) (h : x < BB) (hb : b < W.heap.size) (hc : W.cell? ⟨b, 0, none⟩ = some (.int .u64 (x : Int))) : R64 W (.slice (some ⟨b, 0, none⟩) 1 1) x :=
  ⟨_, _, _, rfl, by rw [limbs1 h0 h]; exact rd1 hb hc⟩
theorem limbs_BB : limbs BB BB = [0, 1] := limbs_of BB_gt1 (Lim.cons BB_pos (Lim.cons BB_gt1 Lim.nil)) (by simp [Cnl]) (by simp [val])
theorem lim1 {x : Nat} (h : x < BB) : Lim BB [x] := Lim.cons h Lim.nil
theorem may1 {x : Nat} (h : 0 < x) : mayN [x] = true := by
  have : ¬ x = 0 := by omega
  simp [mayN, nth, this]
theorem val1 (x : Nat) : val BB [x] = x := by simp [val]

theorem rdb {W : World} {b : Nat} {t : TypeId} (x : Nat) (h : Box W b [.int .u64 (x : Int)] t) : RdN .u64 W (some ⟨b, 0, none⟩) 1 1 [x] := rd1 h.lt (h.cell 0 rfl)
theorem R64b {W : World} {b : Nat} {t : TypeId} (x : Nat) (h : Box W b [.int .u64 (x : Int)] t) (h0 : 0 < x) (hx : x < BB) : R64 W (.slice (some ⟨b, 0, none⟩) 1 1) x := R64.one h0 hx h.lt (h.cell 0 rfl)

theorem sub12 : (if (mayN [1] && mayN [2]) = true ∧ val BB [2] ≤ val BB [1] then (val BB [1] - val BB [2], 0) else ((0 : Nat), (1 : Int))) = (0, 1) := by
  rw [val1, val1, if_neg (by omega)]
theorem shl64 : shlR [1] 64 = (BB, 0) := by
  unfold shlR
  rw [if_neg (by simp [may1]), if_neg (by simp), if_neg (by rw [sizeN_can (lim1 BB_gt1) (by simp [Cnl]), val1]; decide), val1]
  congr 1
theorem size01 : sizeN [0, 1] = 65 := by
  unfold sizeN
  simp [nth, blen]
  decide
theorem zeros01 : zerosN [0, 1] = 64 := by
  unfold zerosN
  have h : val BB [0, 1] = BB := by simp [val]
  rw [h, if_neg (by unfold BB; omega), show tz BB = 64 from tz_of (m := 1) (by rfl) rfl]
  rfl
end Go.Proofs.YteodljieiloebaaDoor
