/- sluicewaylaw2: Few, told. Printed by wip/mk_L2A.py. sluicewaylaw2: the walk of DyadRing. Printed by wip/mk_L2B.py. -/
import Derived.Test.YteodljieiloebaaDoorDyMx
import Derived.Test.YteodljieiloebaaDoorRfBx
namespace Go.Proofs.YteodljieiloebaaDoor
open Go.RowKit Pl

set_option maxHeartbeats 1000000 in
theorem few2_any (u : Value) (d : Dy) (w : World) (h : RdD w u d) :
    Calls Tryd.prog 23 #[u] w fun e w' => e = .returned (.bool (decide (d.m.length ≤ 70))) ∧ Below w.heap.size w w' := by
  obtain ⟨A, n, c, rfl, hr, hl, he1, he2⟩ := h
  have hlen := hr.len
  by_cases h7 : n ≤ 70
  · have d1 : decide ((n : Int) ≤ 70) = true := decide_eq_true (by omega)
    have HD : Hid (decide (d.m.length ≤ 70) = true) := decide_eq_true (by omega)
    obtain ⟨hA, hb0⟩ := box_1 w [.bool d.neg, .slice A n c, .int .i64 d.e] 26
    have a1 := hA.cell 1 rfl
    clear h7
    go_enter Tryd.func23, Tryd.ntmps23
    go_upto_region 1 with fail
    generalize w.alloc (.cells #[.bool d.neg, .slice A n c, .int .i64 d.e] 26) = W at *
    go_wp2
    go_ret
    exact ⟨ret_bool HD.out.symm, hb0⟩
  · have d1 : decide ((n : Int) ≤ 70) = false := decide_eq_false (by omega)
    have HD : Hid (decide (d.m.length ≤ 70) = false) := decide_eq_false (by omega)
    obtain ⟨hA, hb0⟩ := box_1 w [.bool d.neg, .slice A n c, .int .i64 d.e] 26
    have a1 := hA.cell 1 rfl
    clear h7
    go_enter Tryd.func23, Tryd.ntmps23
    go_upto_region 1 with fail
    generalize w.alloc (.cells #[.bool d.neg, .slice A n c, .int .i64 d.e] 26) = W at *
    go_wp2
    go_ret
    exact ⟨ret_bool HD.out.symm, hb0⟩
theorem limb1 {x : Nat} (h0 : 0 < x) (h : x < BB) : limbs BB x = [x] := limbs_of BB_gt1 (Lim.cons h Lim.nil) (by simp [Cnl]; omega) (by simp [val])
theorem fit1 {neg : Bool} {n k x : Nat} {e : Int} (hn : n = 2 ^ k * x) (ho : x % 2 = 1) (hx : x < BB) (h1 : -1048576 ≤ e + (k : Int)) (h2 : e + (k : Int) ≤ 1048576) : fitS neg n e = (⟨neg, [x], e + (k : Int)⟩, 0) := by
  have h0 : x ≠ 0 := by omega
  have hn0 : n ≠ 0 := by rw [hn]; have := Nat.mul_pos (Nat.two_pow_pos k) (Nat.pos_of_ne_zero h0); omega
  have ht : tz n = k := tz_of hn ho
  have hd : n / 2 ^ k = x := by rw [hn, Nat.mul_div_cancel_left _ (Nat.two_pow_pos k)]
  rw [fitS_eq hn0, ht, hd, limb1 (by omega) hx, if_neg (by simp), if_pos ⟨h1, h2⟩]
/-- One limb, and where it lies. -/
theorem RdD.one {w : World} {d : Dy} {A : Option Addr} {n c x : Nat} (h : RdD w (.agg #[.bool d.neg, .slice A n c, .int .i64 d.e]) d) (hm : d.m = [x]) : ∃ b off, A = some ⟨b, off, none⟩ ∧ n = 1 ∧ w.cell? ⟨b, off, none⟩ = some (.int .u64 (x : Int)) ∧ n ≤ c ∧ c ≤ 9223372036854775807 := by
  obtain ⟨A', n', c', e, hr, _⟩ := h
  injection e with e
  have := congrArg Array.toList e
  simp only [List.cons.injEq, Value.slice.injEq, and_true, true_and] at this
  obtain ⟨rfl, rfl, rfl⟩ := this
  have hl := hr.len
  rw [hm] at hl hr
  obtain rfl : n = 1 := hl.symm
  obtain ⟨b, off, rfl, _, hc⟩ := hr.at_ (by omega)
  have h0 := hc 0 (by omega)
  have hmx := hr.max
  unfold maxLen at hmx
  exact ⟨b, off, rfl, rfl, by rw [Nat.add_zero] at h0; exact h0, hr.cap, by omega⟩

end Go.Proofs.YteodljieiloebaaDoor
namespace Go.Proofs.YteodljieiloebaaDoor
open Go.RowKit Pl

theorem RdD.lim {w : World} {v : Value} {d : Dy} (h : RdD w v d) : Lim BB d.m := by obtain ⟨A, n, c, _, _, hl, _⟩ := h; exact hl
end Go.Proofs.YteodljieiloebaaDoor
