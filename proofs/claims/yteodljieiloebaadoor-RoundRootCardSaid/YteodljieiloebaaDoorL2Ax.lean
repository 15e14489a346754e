/- sluicewaylaw2: Few, told. Printed by wip/mk_L2A.py. sluicewaylaw2: the walk of DyadRing. Printed by wip/mk_L2B.py. -/
import Derived.Test.YteodljieiloebaaDoorDyMx
import Derived.Test.YteodljieiloebaaDoorRfBx
namespace Go.Proofs.YteodljieiloebaaDoor
open Go.RowKit Pl

set_option maxHeartbeats 1000000 in
theorem few2_any (u : Value) (d : Dy) (w : World) (h : RdD w u d) :
    Calls Tryd.prog 23 #[u] w fun e w' => e = .returned (.bool (decide (d.m.length ≤ 70))) ∧ Below w.heap.size w w' := by
  obtain ⟨A, n, c, rfl, hr, hl, he1, he2⟩ := h
  have hlen := hr.len
  by_cases h7 : n ≤ 70
  · have d1 : decide ((n : Int) ≤ 70) = true := decide_eq_true (by omega)
    have HD : Hid (decide (d.m.length ≤ 70) = true) := decide_eq_true (by omega)
    obtain ⟨hA, hb0⟩ := box_1 w [.bool d.neg, .slice A n c, .int .i64 d.e] 26
    have a1 := hA.cell 1 rfl
    clear h7
    go_enter Tryd.func23, Tryd.ntmps23
    go_upto_region 1 with fail
    generalize w.alloc (.cells #[.bool d.neg, .slice A n c, .int .i64 d.e] 26) = W at *
    go_wp2
    go_ret
    exact ⟨ret_bool HD.out.symm, hb0⟩
  · have d1 : decide ((n : Int) ≤ 70) = false := decide_eq_false (by omega)
    have HD : Hid (decide (d.m.length ≤ 70) = false) := decide_eq_false (by omega)
    obtain ⟨hA, hb0⟩ := box_1 w [.bool d.neg, .slice A n c, .int .i64 d.e] 26
    have a1 := hA.cell 1 rfl
    clear h7
    go_enter Tryd.func23, Tryd.ntmps23
    go_upto_region 1 with fail
    generalize w.alloc (.cells #[.bool d.neg, .slice A n c, .int .i64 d.e] 26) = W at *
    go_wp2
    go_ret
    exact ⟨ret_bool HD.out.symm, hb0⟩
theorem limb1 {x : Nat} (h0 : 0 < x) (h : x < BB) : limbs BB x = [x] := limbs_of BB_gt1 (Lim.cons h Lim.nil) (by simp [Cnl]; omega) (by simp [val])
theorem fit1 {neg : Bool} {n k x : Nat} {e : Int} (hn : n = 2 ^ k * x) (ho : x % 2 = 1) (hx : x < BB) (h1 : -1048576 ≤ e + (k : Int)) (h2 : e + (k : Int) ≤ 1048576) : fitS neg n e = (⟨neg, [x], e + (k : Int)⟩, 0) := by
  have h0 : x ≠ 0 := by omega
  have hn0 : n ≠ 0 := by rw [hn]; have := Nat.mul_pos (Nat.two_pow_pos k) (Nat.pos_of_ne_zero h0); omega
  have ht : tz n = k := tz_of hn ho
  have hd : n / 2 ^ k = x := by rw [hn, Nat.mul_div_cancel_left _ (Nat.two_pow_pos k)]
  rw [fitS_eq hn0, ht, hd, limb1 (by omega) hx, if_neg (by simp), if_pos ⟨h1, h2⟩]
theorem of_six : ofS 6 0 = (⟨false, [3], 1⟩, 0) := fit1 (neg := false) (n := 6) (e := 0) (k := 1) (x := 3) rfl rfl (by unfold BB; omega) (by decide) (by decide)
theorem of_half : ofS (-1) (-1) = (⟨true, [1], -1⟩, 0) := fit1 (neg := true) (n := 1) (e := -1) (k := 0) (x := 1) rfl rfl (by unfold BB; omega) (by decide) (by decide)
theorem of_far : ofS 1 1048577 = (Dy.zero, 3) := by
  unfold ofS
  rw [fitS_eq (by decide), show (1 : Int).natAbs = 1 from rfl, show tz 1 = 0 from rfl, Nat.pow_zero, Nat.div_one, limb1 (by omega) BB_gt1, if_neg (by decide), if_neg (by decide)]
theorem sum_told : twoS ⟨false, [3], 1⟩ ⟨true, [1], -1⟩ (sumS ⟨false, [3], 1⟩ ⟨true, [1], -1⟩) = (⟨false, [11], -1⟩, 0) := by
  rw [twoS_of (by decide) (by decide)]
  exact fit1 (neg := false) (e := -1) (n := 11) (k := 0) (x := 11) rfl rfl (by unfold BB; omega) (by decide) (by decide)
theorem mul_told : twoS ⟨false, [3], 1⟩ ⟨true, [1], -1⟩ (mulS ⟨false, [3], 1⟩ ⟨true, [1], -1⟩) = (⟨true, [3], 0⟩, 0) := by
  rw [twoS_of (by decide) (by decide)]
  exact fit1 (neg := true) (e := 0) (n := 3) (k := 0) (x := 3) rfl rfl (by unfold BB; omega) (by decide) (by decide)
theorem zd_told1 : ZD ⟨true, [1], -1⟩ < ZD ⟨false, [3], 1⟩ := by
  have h1 := magD_pos (d := ⟨true, [1], -1⟩) (by decide) (by decide)
  have h2 := magD_pos (d := ⟨false, [3], 1⟩) (by decide) (by decide)
  rw [ZD_mag, ZD_mag]
  generalize magD ⟨true, [1], -1⟩ = x at *
  generalize magD ⟨false, [3], 1⟩ = y at *
  simp only [sgI, if_true, Bool.false_eq_true, if_false]
  omega
theorem cmp_toldL : cmpD ⟨false, [3], 1⟩ ⟨true, [1], -1⟩ = 1 := by
  rw [cmpD_Z (by decide) (Lim.cons (by unfold BB; omega) Lim.nil) (by decide) (Lim.cons (by unfold BB; omega) Lim.nil)]
  unfold cmpI
  have := zd_told1
  rw [if_neg (by omega), if_pos this]
/-- One limb, and where it lies. -/
theorem RdD.one {w : World} {d : Dy} {A : Option Addr} {n c x : Nat} (h : RdD w (.agg #[.bool d.neg, .slice A n c, .int .i64 d.e]) d) (hm : d.m = [x]) : ∃ b off, A = some ⟨b, off, none⟩ ∧ n = 1 ∧ w.cell? ⟨b, off, none⟩ = some (.int .u64 (x : Int)) ∧ n ≤ c ∧ c ≤ 9223372036854775807 := by
  obtain ⟨A', n', c', e, hr, _⟩ := h
  injection e with e
  have := congrArg Array.toList e
  simp only [List.cons.injEq, Value.slice.injEq, and_true, true_and] at this
  obtain ⟨rfl, rfl, rfl⟩ := this
  have hl := hr.len
  rw [hm] at hl hr
  obtain rfl : n = 1 := hl.symm
  obtain ⟨b, off, rfl, _, hc⟩ := hr.at_ (by omega)
  have h0 := hc 0 (by omega)
  have hmx := hr.max
  unfold maxLen at hmx
  exact ⟨b, off, rfl, rfl, by rw [Nat.add_zero] at h0; exact h0, hr.cap, by omega⟩

end Go.Proofs.YteodljieiloebaaDoor
namespace Go.Proofs.YteodljieiloebaaDoor
open Go.RowKit Pl

theorem RdD.lim {w : World} {v : Value} {d : Dy} (h : RdD w v d) : Lim BB d.m := by obtain ⟨A, n, c, _, _, hl, _⟩ := h; exact hl
theorem RdD.few {w : World} {d : Dy} {A : Option Addr} {n c : Nat} (h : RdD w (.agg #[.bool d.neg, .slice A n c, .int .i64 d.e]) d) : d.m.length = n := by
  obtain ⟨A', n', c', e, hr, _⟩ := h
  injection e with e
  have := congrArg Array.toList e
  simp only [List.cons.injEq, Value.slice.injEq, and_true, true_and] at this
  obtain ⟨rfl, rfl, rfl⟩ := this
  exact hr.len
theorem ring_law {a b c s p q r t : Dy} (ha : mayD a = true) (la : Lim BB a.m) (hb : mayD b = true) (lb : Lim BB b.m) (hc : mayD c = true)
    (hs : twoS a b (sumS a b) = (s, 0)) (hp : twoS s c (mulS s c) = (p, 0)) (hq : twoS a c (mulS a c) = (q, 0)) (hr : twoS b c (mulS b c) = (r, 0)) (ht : twoS q r (sumS q r) = (t, 0)) :
    p = t ∧ twoS s b (subS s b) = (a, 0) ∧ twoS b a (sumS b a) = (s, 0) ∧ mayD s = true ∧ mayD p = true := by
  rw [twoS_of ha hb, sumS_Z ha la hb lb] at hs
  obtain ⟨s1, s2, s3⟩ := fitZ_post hs
  rw [twoS_of s1 hc] at hp
  rw [twoS_of ha hc] at hq
  rw [twoS_of hb hc] at hr
  obtain ⟨p1, p2, p3⟩ := mulS_post s1 hc hp
  obtain ⟨q1, q2, q3⟩ := mulS_post ha hc hq
  obtain ⟨r1, r2, r3⟩ := mulS_post hb hc hr
  rw [twoS_of q1 r1, sumS_Z q1 q2 r1 r2] at ht
  obtain ⟨t1, t2, t3⟩ := fitZ_post ht
  have hP : (0 : Int) < ((2 ^ SS : Nat) : Int) := by have := Nat.two_pow_pos SS; omega
  refine ⟨ZD_inj p1 p2 t1 t2 ?_, ?_, ?_, s1, p1⟩
  · refine Int.eq_of_mul_eq_mul_right (by omega) (p3.trans ?_)
    rw [t3, s3, Int.add_mul, Int.add_mul, q3, r3]
  · rw [twoS_of s1 hb, subS_Z s1 s2 hb lb, s3, show ZD a + ZD b - ZD b = ZD a by omega, fit_Z la ha]
  · rw [twoS_of hb ha, sumS_Z hb lb ha la, Int.add_comm]
    exact hs

end Go.Proofs.YteodljieiloebaaDoor
