/- Plain law: what the laws of rounding ask, in one place for each law. -/
import Derived.Test.YteodljieiloebaaDoorRnQx
import Derived.Test.YteodljieiloebaaDoorIvBx
import Derived.Test.YteodljieiloebaaDoorIvCx
import Derived.Test.YteodljieiloebaaDoorCntx
namespace Go.Proofs.YteodljieiloebaaDoor
open Go.RowKit Pl

theorem d0 {r : Dy × Int} {a : Dy} {x : Int} (h : Hid ((a, x) = r)) (hx : ((x : Int) != 0) = false) : r = (a, 0) := by
  have : x = 0 := by simpa using hx
  rw [← h.out, this]
theorem d0' {r : Dy × Int} {a : Dy} {x : Int} (h : Hid ((a, x) = r)) (hx : ((x : Int) == 0) = true) : r = (a, 0) := d0 h (by simpa using hx)
theorem dx2r {d d' : Dy} {x x' : Int} {r : Dy × Int} (k : Hid ((d, x) = r)) (e : r = (d', x')) : d' = d ∧ x' = x := let q := dx2 k e; ⟨q.1.symm, q.2.symm⟩
theorem nlt {a b : Int} (h : decide (a < b) = false) : b ≤ a := by simpa using h
theorem RdD.abs {w : World} {d : Dy} {A : Option Addr} {n c : Nat} (h : RdD w (.agg #[.bool d.neg, .slice A n c, .int .i64 d.e]) d) : RdD w (.agg #[.bool false, .slice A n c, .int .i64 d.e]) ⟨false, d.m, d.e⟩ := by
  have h1 := h.length.2
  obtain ⟨_, _, _, _, _, h2, h3, h4⟩ := h
  exact ⟨A, n, c, rfl, h1, h2, h3, h4⟩
theorem len_may {d : Dy} (h : mayD d = true) : d.m.length ≤ 1000000 := by have := (mayD_limbs h).2.1; omega
structure Betw (d A B : Dy) (n : Nat) : Prop where
  gd : GD d
  gA : GD A
  gB : GD B
  bA : bitsD A ≤ (n : Int)
  bB : bitsD B ≤ (n : Int)
  lo : cmpD A d ≤ 0
  hi : cmpD d B ≤ 0
  eq : (sameD A B == decide (bitsD d ≤ (n : Int))) = true
  up : dirS A n true = (A, 0)
  dn : dirS (negS d) n false = (negS B, 0)
theorem dir_GD {d a : Dy} {p : Nat} {up : Bool} (h : dirS d p up = (a, 0)) : GD a := let q := dir_post h; ⟨q.2.2.2.1, q.2.2.2.2.1⟩
theorem dir_bits {d a : Dy} {p : Nat} {up : Bool} (h : dirS d p up = (a, 0)) : bitsD a ≤ (p : Int) := let q := dir_post h; (bits_GP q.2.2.2.1).2 q.2.2.2.2.2.1
theorem Betw.mk' {d A B : Dy} {n : Nat} (ld : Lim BB d.m) (h1 : dirS d n false = (A, 0)) (h2 : dirS d n true = (B, 0)) : Betw d A B n := by
  obtain ⟨hm, p1, p2, _, _, _, lo, _⟩ := dir_post h1
  obtain ⟨_, _, _, _, _, _, _, hi⟩ := dir_post h2
  have GA := dir_GD h1
  have GB := dir_GD h2
  have Gd : GD d := ⟨hm, ld⟩
  obtain ⟨lo, _⟩ := lo rfl
  obtain ⟨hi, _⟩ := hi rfl
  have bA := dir_bits h1
  refine ⟨Gd, GA, GB, bA, dir_bits h2, (GA.le Gd).2 lo, (Gd.le GB).2 hi, ?_, dir_fix GA.may GA.lim p1 p2 bA, dir_neg h2⟩
  by_cases hb : bitsD d ≤ (n : Int)
  · have e1 := dir_fix (up := false) hm ld p1 p2 hb
    have e2 := dir_fix (up := true) hm ld p1 p2 hb
    obtain rfl := (Prod.mk.inj (h1.symm.trans e1)).1
    obtain rfl := (Prod.mk.inj (h2.symm.trans e2)).1
    rw [sameD_self, decide_eq_true hb]
    rfl
  · rw [decide_eq_false hb, GA.same GB]
    have hne : ZD A ≠ ZD B := by
      intro he
      have : ZD A = ZD d := by omega
      have hA := ZD_inj GA.may GA.lim Gd.may Gd.lim this
      rw [hA] at bA
      exact hb bA
    rw [decide_eq_false hne]
    rfl
theorem near_lo {d c A : Dy} {n : Nat} (Gd : GD d) (Gc : GD c) (h1 : dirS d n false = (A, 0)) (hb : decide ((n : Int) < bitsD c) = false) (hc : decide (cmpD c d ≤ 0) = true) : decide (cmpD A c < 0) = false := by
  have GA := dir_GD h1
  have hb' : bitsD c ≤ (n : Int) := by simpa using hb
  have := ((dir_post h1).2.2.2.2.2.2.1 rfl).2 (ZD c) ((bits_GP Gc.may).1 hb') ((Gc.le Gd).1 (by simpa using hc))
  have := (GA.ge Gc).2 this
  exact decide_eq_false (by omega)
theorem near_hi {d c B : Dy} {n : Nat} (Gd : GD d) (Gc : GD c) (h1 : dirS d n true = (B, 0)) (hb : decide ((n : Int) < bitsD c) = false) (hc : decide (cmpD c d < 0) = false) : decide ((0 : Int) ≤ cmpD c B) = true := by
  have GB := dir_GD h1
  have hb' : bitsD c ≤ (n : Int) := by simpa using hb
  have hc' : (0 : Int) ≤ cmpD c d := by simpa using hc
  have := ((dir_post h1).2.2.2.2.2.2.2 rfl).2 (ZD c) ((bits_GP Gc.may).1 hb') ((Gc.ge Gd).1 hc')
  exact decide_eq_true ((Gc.ge GB).2 this)
/-- Rounded twice. -/
theorem dir_twice {d a b c : Dy} {n m : Nat} {up : Bool} (hmn : m ≤ n) (h1 : dirS d n up = (a, 0)) (h2 : dirS a m up = (b, 0)) (h3 : dirS d m up = (c, 0)) : b = c := by
  have Gb := dir_GD h2
  have Gc := dir_GD h3
  obtain ⟨_, _, _, _, _, g1, l1, u1⟩ := dir_post h1
  obtain ⟨_, _, _, _, _, g2, l2, u2⟩ := dir_post h2
  obtain ⟨_, _, _, _, _, g3, l3, u3⟩ := dir_post h3
  refine ZD_inj Gb.may Gb.lim Gc.may Gc.lim ?_
  cases up with
  | false =>
    obtain ⟨a1, a2⟩ := l1 rfl
    obtain ⟨b1, b2⟩ := l2 rfl
    obtain ⟨c1, c2⟩ := l3 rfl
    have h4 := a2 _ (g3.mono hmn) c1
    have h5 := b2 _ g3 h4
    have h6 := c2 _ g2 (by omega)
    omega
  | true =>
    obtain ⟨a1, a2⟩ := u1 rfl
    obtain ⟨b1, b2⟩ := u2 rfl
    obtain ⟨c1, c2⟩ := u3 rfl
    have h4 := a2 _ (g3.mono hmn) c1
    have h5 := b2 _ g3 h4
    have h6 := c2 _ g2 (by omega)
    omega
/-- Rounded twice goes well. -/
theorem twice_ok {d : Dy} {n m : Nat} (up : Bool) (ld : Lim BB d.m) (hm : mayD d = true) (hl : d.m.length ≤ 10) (he1 : -1000 ≤ d.e) (he2 : d.e ≤ 1000) (n1 : 1 ≤ n) (n2 : n ≤ 400) (m1 : 1 ≤ m) (m2 : m ≤ n) :
    ∃ a b, dirS d n up = (a, 0) ∧ dirS a m up = (b, 0) ∧ dirS d m up = (b, 0) := by
  have hb : blen (val BB d.m) ≤ 640 := Nat.le_trans (blen_limb ld) (by omega)
  obtain ⟨a, h1, ba, ea1, ea2⟩ := dir_ok (d := d) (p := n) up (E := 1000) hm n1 (by omega) (by omega) (by omega) (by omega) (by omega)
  obtain ⟨b, h2, _⟩ := dir_ok (d := a) (p := m) up (E := 8000) (dir_GD h1).may m1 (by omega) (by omega) (by omega) (by omega) (by omega)
  obtain ⟨c, h3, _⟩ := dir_ok (d := d) (p := m) up (E := 1000) hm m1 (by omega) (by omega) (by omega) (by omega) (by omega)
  obtain rfl := dir_twice m2 h1 h2 h3
  exact ⟨a, b, h1, h2, h3⟩
/-! What is held. -/
theorem two_ge : (0 : Int) < ((2 ^ SS : Nat) : Int) := by exact_mod_cast Nat.two_pow_pos SS
theorem two_mul {a b u : Dy} (ha : mayD a = true) (hb : mayD b = true) (h : twoS a b (mulS a b) = (u, 0)) : mulS a b = (u, 0) := by rw [twoS_of ha hb] at h; exact h
theorem quot_may {a b x : Dy} {n : Nat} {up : Bool} (Gb : GD b) (hp : b.neg = false) (h : quotS a b n up = (x, 0)) : mayD x = true := (quot_post Gb.lim h hp).1
theorem holds_lo {a b x u : Dy} {n : Nat} (Ga : GD a) (Gb : GD b) (hp : b.neg = false) (h : quotS a b n false = (x, 0)) (hu : mulS x b = (u, 0)) : decide ((0 : Int) < cmpD u a) = false := by
  obtain ⟨m1, l1, q, _⟩ := quot_post Gb.lim h hp
  obtain ⟨m2, l2, z⟩ := mulS_post m1 Gb.may hu
  have Gu : GD u := ⟨m2, l2⟩
  have h1 := q rfl
  rw [← z] at h1
  have h2 := Int.le_of_mul_le_mul_right h1 two_ge
  have h3 := (Gu.le Ga).2 h2
  exact decide_eq_false (by omega)
theorem holds_hi {a b x u : Dy} {n : Nat} (Ga : GD a) (Gb : GD b) (hp : b.neg = false) (h : quotS a b n true = (x, 0)) (hu : mulS x b = (u, 0)) : decide ((0 : Int) < cmpD a u) = false := by
  obtain ⟨m1, l1, _, q⟩ := quot_post Gb.lim h hp
  obtain ⟨m2, l2, z⟩ := mulS_post m1 Gb.may hu
  have Gu : GD u := ⟨m2, l2⟩
  have h1 := q rfl
  rw [← z] at h1
  have h2 := Int.le_of_mul_le_mul_right h1 two_ge
  have h3 := (Ga.le Gu).2 h2
  exact decide_eq_false (by omega)
theorem root_may {d x : Dy} {n : Nat} {up : Bool} (Gd : GD d) (h : rootS d n up = (x, 0)) : mayD x = true := (root_post Gd.lim h).1
theorem root_lo {d x u : Dy} {n : Nat} (Gd : GD d) (h : rootS d n false = (x, 0)) (hu : mulS x x = (u, 0)) : decide (cmpD u d ≤ 0) = true := by
  obtain ⟨m1, l1, _, _, q, _⟩ := root_post Gd.lim h
  obtain ⟨m2, l2, z⟩ := mulS_post m1 m1 hu
  have Gu : GD u := ⟨m2, l2⟩
  have h1 := q rfl
  rw [← z] at h1
  exact decide_eq_true ((Gu.le Gd).2 (Int.le_of_mul_le_mul_right h1 two_ge))
theorem root_hi {d x u : Dy} {n : Nat} (Gd : GD d) (h : rootS d n true = (x, 0)) (hu : mulS x x = (u, 0)) : decide (cmpD d u ≤ 0) = true := by
  obtain ⟨m1, l1, _, _, _, q⟩ := root_post Gd.lim h
  obtain ⟨m2, l2, z⟩ := mulS_post m1 m1 hu
  have Gu : GD u := ⟨m2, l2⟩
  have h1 := q rfl
  rw [← z] at h1
  exact decide_eq_true ((Gd.le Gu).2 (Int.le_of_mul_le_mul_right h1 two_ge))
theorem sign_pos {b : Dy} (hm : mayD b = true) (h : decide (signD b ≤ 0) = false) : b.neg = false ∧ 0 < ZD b := by
  have h' : ¬ signD b ≤ 0 := by simpa using h
  rcases signD_Z hm with ⟨s, _⟩ | ⟨s, z, n, _⟩ | ⟨s, _⟩
  · omega
  · exact ⟨n, z⟩
  · omega
theorem root_sign {d x : Dy} {n : Nat} {up : Bool} (Gd : GD d) (h : rootS d n up = (x, 0)) (hp : decide (signD d ≤ 0) = false) : decide ((0 : Int) < signD x) = true := by
  obtain ⟨m1, l1, _, q, _⟩ := root_post Gd.lim h
  have hx := q (sign_pos Gd.may hp).2
  rcases signD_Z m1 with ⟨s, z, _⟩ | ⟨s, z, _⟩ | ⟨s, z, _⟩
  · omega
  · rw [s]; rfl
  · omega
theorem root_bits {d x : Dy} {n : Nat} {up : Bool} (Gd : GD d) (h : rootS d n up = (x, 0)) : decide (bitsD x ≤ (n : Int)) = true := by
  obtain ⟨m1, l1, g, _⟩ := root_post Gd.lim h
  exact decide_eq_true ((bits_GP m1).2 g)
theorem sign_ne {a : Dy} (hm : mayD a = true) (h : ((signD a : Int) == 0) = false) : a.m.length ≠ 0 := by
  intro h0
  rcases signD_Z hm with ⟨s, _⟩ | ⟨_, _, _, n⟩ | ⟨_, _, _, n⟩
  · rw [s] at h; simp at h
  · exact n h0
  · exact n h0
theorem exact_ok {a b : Dy} (up : Bool) (Ga : GD a) (Gb : GD b) (a0 : a.m.length ≠ 0) (b0 : b.m.length ≠ 0)
    (a3 : a.m.length ≤ 3) (b3 : b.m.length ≤ 3) (ae1 : -1000 ≤ a.e) (ae2 : a.e ≤ 1000) (be1 : -1000 ≤ b.e) (be2 : b.e ≤ 1000) :
    ∃ m s, twoS a b (mulS a b) = (m, 0) ∧ quotS m b 200 up = (a, 0) ∧ twoS a a (mulS a a) = (s, 0) ∧ rootS s 200 up = (⟨false, a.m, a.e⟩, 0) := by
  obtain ⟨m, h1, m1, l1, v1, e1, n1⟩ := mul_odd Ga.may Ga.lim Gb.may Gb.lim a0 b0 a3 b3 ae1 ae2 be1 be2
  obtain ⟨s, h2, m2, l2, v2, e2, n2⟩ := mul_odd Ga.may Ga.lim Ga.may Ga.lim a0 a0 a3 a3 ae1 ae2 ae1 ae2
  exact ⟨m, s, by rw [twoS_of Ga.may Gb.may, h1], quot_exact Ga.may Ga.lim Gb.may a0 b0 a3 m1 v1 e1 n1, by rw [twoS_of Ga.may Ga.may, h2], root_exact Ga.may Ga.lim a0 a3 m2 v2 e2 n2⟩
end Go.Proofs.YteodljieiloebaaDoor
