/- The plain law of TubeMade: numbers of few parts, halves again and again. -/
import Derived.Test.YtbpfnooloemieaaDoorTbQx
import Derived.Test.YtbpfnooloemieaaDoorDyMx
namespace Go.Proofs.YtbpfnooloemieaaDoor
open Go.RowKit Pl

def UU : Nat := 8388588
theorem UU_eq : (UU : Int) = 8388588 := rfl
/-- The unit, 2^-20, as a letter. -/
def uu : Int := ((2 ^ UU : Nat) : Int)
theorem uu_pos : 0 < uu := by
  have := Nat.two_pow_pos UU
  unfold uu
  omega
theorem SU : SS = UU + 20 := rfl
theorem pow_SU : ((2 ^ SS : Nat) : Int) = 1048576 * uu := by
  unfold uu
  rw [SU, Nat.pow_add, Int.natCast_mul, Int.mul_comm]
  rfl
/-- A number of few parts of the unit. -/
def Sm (z : Int) : Prop := ∃ M : Int, z = M * uu ∧ M.natAbs < 2 ^ 60
theorem Sm.mk' {M z : Int} (h : z = M * uu) (lo : -(1099511627776 * uu) ≤ z) (hi : z ≤ 1099511627776 * uu) : Sm z := by
  refine ⟨M, h, ?_⟩
  have hu := uu_pos
  have h1 : (-1099511627776) * uu ≤ M * uu := by rw [← h, Int.neg_mul]; exact lo
  have h2 : M * uu ≤ 1099511627776 * uu := by rw [← h]; exact hi
  have h3 := Int.le_of_mul_le_mul_right h1 hu
  have h4 := Int.le_of_mul_le_mul_right h2 hu
  omega
theorem sg_abs (M : Int) : sgI (decide (M < 0)) * ((M.natAbs : Nat) : Int) = M := by
  by_cases h : M < 0
  · rw [decide_eq_true h]
    show (-1 : Int) * _ = _
    omega
  · rw [decide_eq_false h]
    show (1 : Int) * _ = _
    omega
theorem Sm.fit {z : Int} (h : Sm z) : ∃ d, fitZ z = (d, 0) := by
  obtain ⟨M, rfl, hM⟩ := h
  have h1 := fitS_Z (neg := decide (M < 0)) (n := M.natAbs) (e := -20) (by omega)
  have hS := SS_eq
  have hU := UU_eq
  rw [show (-20 + (SS : Int)).toNat = UU by omega, Int.natCast_mul, ← Int.mul_assoc, sg_abs] at h1
  show ∃ d, fitZ (M * ((2 ^ UU : Nat) : Int)) = (d, 0)
  rw [← h1]
  by_cases h0 : M.natAbs = 0
  · rw [h0]
    exact ⟨_, fitS_zero _ _⟩
  · rw [fitS_eq h0]
    have hl : (limbs BB (M.natAbs / 2 ^ tz M.natAbs)).length ≤ 1 := limbs_len64 (by
      have := Nat.div_le_self M.natAbs (2 ^ tz M.natAbs)
      omega)
    have ht : tz M.natAbs < 60 := by
      have := tz_lt_blen h0
      have h5 : blen M.natAbs ≤ 60 := blen_le.2 hM
      omega
    rw [if_neg (by omega), if_pos (by omega)]
    exact ⟨_, rfl⟩
theorem Sm.got {z : Int} (h : Sm z) {d : Dy} {x : Int} (k : (d, x) = fitZ z) : x = 0 ∧ GD d ∧ ZD d = z := by
  obtain ⟨d', e⟩ := h.fit
  rw [e] at k
  cases k
  obtain ⟨h1, h2, h3⟩ := fitZ_post e
  exact ⟨rfl, ⟨h1, h2⟩, h3⟩
theorem ofS_Z {j e : Int} (he : -8388608 ≤ e) : ofS j e = fitZ (j * ((2 ^ (e + (SS : Int)).toNat : Nat) : Int)) := by
  unfold ofS
  rw [fitS_Z he, Int.natCast_mul, ← Int.mul_assoc, sg_abs]
/-- A shift down. -/
theorem shift_down {d : Dy} {k : Nat} {z : Int} (g : GD d) (hk : k ≤ 1000) (h : ZD d = z * ((2 ^ k : Nat) : Int)) : shiftS d (-(k : Int)) = fitZ z := by
  have hp : 0 < (2 : Nat) ^ k := Nat.two_pow_pos k
  unfold shiftS
  rw [if_neg (by simp [g.may])]
  by_cases h0 : d.m.length = 0
  · rw [if_pos h0, mayD_zero g.may h0]
    have hz : z = 0 := by
      have h5 := ZD_nil h0
      rw [h] at h5
      rcases Int.mul_eq_zero.1 h5 with h6 | h6
      · exact h6
      · omega
    rw [hz]
    rfl
  · rw [if_neg h0, if_neg (by omega)]
    obtain ⟨_, _, e1, e2⟩ := mayD_limbs g.may
    have hS := SS_eq
    rw [fitS_Z (by omega)]
    congr 1
    have hq : (d.e + (SS : Int)).toNat = (d.e + -(k : Int) + (SS : Int)).toNat + k := by omega
    unfold ZD at h
    rw [hq, Nat.pow_add, ← Nat.mul_assoc, Int.natCast_mul (_ * _) (2 ^ k), ← Int.mul_assoc] at h
    exact Int.eq_of_mul_eq_mul_right (by omega) h
theorem sgI_mul (a b : Bool) : sgI a * sgI b = sgI (a != b) := by cases a <;> cases b <;> rfl
theorem mulS_Z {a b : Dy} {z : Int} (ga : GD a) (gb : GD b) (h : ZD a * ZD b = z * ((2 ^ SS : Nat) : Int)) : mulS a b = fitZ z := by
  obtain ⟨_, _, e1, e2⟩ := mayD_limbs ga.may
  obtain ⟨_, _, f1, f2⟩ := mayD_limbs gb.may
  have hS := SS_eq
  unfold mulS
  rw [fitS_Z (by omega)]
  congr 1
  unfold ZD at h
  have hq : (2 : Nat) ^ (a.e + (SS : Int)).toNat * 2 ^ (b.e + (SS : Int)).toNat = 2 ^ (a.e + b.e + (SS : Int)).toNat * 2 ^ SS := by
    rw [← Nat.pow_add, ← Nat.pow_add]
    congr 1
    omega
  have hpos : 0 < (2 : Nat) ^ SS := Nat.two_pow_pos _
  rw [← sgI_mul]
  generalize (2 : Nat) ^ (a.e + (SS : Int)).toNat = P at *
  generalize (2 : Nat) ^ (b.e + (SS : Int)).toNat = Q at *
  generalize (2 : Nat) ^ (a.e + b.e + (SS : Int)).toNat = R at *
  generalize (2 : Nat) ^ SS = S at *
  generalize val BB a.m = va at *
  generalize val BB b.m = vb at *
  have e5 : sgI a.neg * ((va * P : Nat) : Int) * (sgI b.neg * ((vb * Q : Nat) : Int)) = sgI a.neg * sgI b.neg * ((va * vb * R : Nat) : Int) * (S : Int) := by
    have e6 : va * P * (vb * Q) = va * vb * R * S := by
      rw [Nat.mul_mul_mul_comm, hq, ← Nat.mul_assoc]
    have e7 : ((va * P : Nat) : Int) * ((vb * Q : Nat) : Int) = ((va * vb * R : Nat) : Int) * (S : Int) := by
      rw [← Int.natCast_mul, e6, Int.natCast_mul]
    calc _ = sgI a.neg * sgI b.neg * (((va * P : Nat) : Int) * ((vb * Q : Nat) : Int)) := by ac_rfl
      _ = _ := by rw [e7, ← Int.mul_assoc]
  rw [e5] at h
  exact Int.eq_of_mul_eq_mul_right (by omega) h
theorem mid_sm {a b : Dy} {z : Int} (ga : GD a) (gb : GD b) (h : ZD a ≤ ZD b) (hz : ZD a + ZD b = z * 2) (s1 : Sm (ZD a + ZD b)) (s2 : Sm z) : ∃ d, midI ⟨a, b⟩ = (d, 0) ∧ ZD d = z := by
  have hm : mayI ⟨a, b⟩ = true := (GI.may (a := ⟨a, b⟩) ⟨ga, gb⟩).2 h
  unfold midI
  rw [hm, cond_true, twoS_of ga.may gb.may, sumS_Z ga.may ga.lim gb.may gb.lim]
  obtain ⟨s, hs⟩ := s1.fit
  obtain ⟨_, gs, es⟩ := s1.got hs.symm
  simp only [hs]
  rw [show ((0 : Int) != 0) = false from rfl, cond_false]
  have := shift_down (k := 1) gs (by omega) (by rw [es, hz]; rfl)
  rw [show (-((1 : Nat) : Int)) = -1 from rfl] at this
  rw [this]
  obtain ⟨d, hd⟩ := s2.fit
  exact ⟨d, hd, (s2.got hd.symm).2.2⟩
/-- Halves that come to be. -/
theorem halvL_made {t : Tb} {P : Int → Prop} : ∀ (vs : List Iv) (i : Nat) (p : List Dy) (q : List Iv), (∀ j, i ≤ j → j < i + vs.length → ∃ d, midI ⟨atT t.at_ j, atT t.at_ (j + 1)⟩ = (d, 0) ∧ P (ZD d)) → (∀ j, i ≤ j → j ≤ i + vs.length → P (ZT t j)) → (∀ x ∈ p, P (ZD x)) → ∃ m, halvL t.at_ i p q vs = (m, 0) ∧ ∀ x ∈ m.at_, P (ZD x)
  | [], i, p, q, _, _, hp => ⟨⟨p, q⟩, rfl, hp⟩
  | v :: vs, i, p, q, h, hz, hp => by
    obtain ⟨d, hd, hP⟩ := h i (Nat.le_refl _) (by rw [List.length_cons]; omega)
    have e2 : halvL t.at_ i p q (v :: vs) = bif (midI ⟨atT t.at_ i, atT t.at_ (i + 1)⟩).2 != 0 then (nilT, (midI ⟨atT t.at_ i, atT t.at_ (i + 1)⟩).2) else halvL t.at_ (i + 1) (p ++ [(midI ⟨atT t.at_ i, atT t.at_ (i + 1)⟩).1, atT t.at_ (i + 1)]) (q ++ [v, v]) vs := rfl
    rw [e2]
    simp only [hd]
    rw [show ((0 : Int) != 0) = false from rfl, cond_false]
    refine halvL_made vs (i + 1) _ _ (fun j h1 h2 => h j (by omega) (by rw [List.length_cons]; omega)) (fun j h1 h2 => hz j (by omega) (by rw [List.length_cons]; omega)) fun x hx => ?_
    rw [List.mem_append] at hx
    rcases hx with hx | hx
    · exact hp x hx
    · simp only [List.mem_cons, List.not_mem_nil, or_false] at hx
      rcases hx with rfl | rfl
      · exact hP
      · exact hz (i + 1) (by omega) (by rw [List.length_cons]; omega)
/-- A tube of one cell, halved some times. -/
structure Mk (t : Tb) (v : Iv) (lo hi g : Int) (n : Nat) : Prop where
  T : OkT t
  len : t.v.length = n
  cells : ∀ (k : Nat) u, t.v[k]? = some u → u = v
  z0 : ZT t 0 = lo
  z1 : ZT t t.v.length = hi
  grid : ∀ x ∈ t.at_, ∃ M : Int, ZD x = M * g
theorem Mk.step {t m : Tb} {v : Iv} {lo hi g : Int} {n G : Nat} {e : Int} (K : Mk t v lo hi (g * 2) n) (hg : g = (G : Int) * uu) (hn : n ≤ 100) (h1 : -(549755813888 * uu) ≤ lo) (h2 : hi ≤ 549755813888 * uu) (k : Hid ((m, e) = halveT t)) : e = 0 ∧ Mk m v lo hi g (2 * n) := by
  have hu := uu_pos
  have T := K.T
  have len := K.len
  have gr : ∀ i, i ≤ t.v.length → ∃ M : Int, ZT t i = M * (g * 2) := fun i hi => K.grid _ (atT_mem (by have := T.len; omega))
  have bd : ∀ i, i ≤ t.v.length → lo ≤ ZT t i ∧ ZT t i ≤ hi := fun i hi => ⟨by rw [← K.z0]; exact T.le (Nat.zero_le _) hi, by rw [← K.z1]; exact T.le hi (Nat.le_refl _)⟩
  have step : ∀ j, j < t.v.length → ∃ d, midI ⟨atT t.at_ j, atT t.at_ (j + 1)⟩ = (d, 0) ∧ ∃ M : Int, ZD d = M * g := fun j hj => by
    obtain ⟨M1, e1⟩ := gr j (by omega)
    obtain ⟨M2, e2⟩ := gr (j + 1) hj
    have b1 := bd j (by omega)
    have b2 := bd (j + 1) hj
    have ez : ZT t j + ZT t (j + 1) = ((M1 + M2) * g) * 2 := by rw [e1, e2, ← Int.add_mul, Int.mul_assoc]
    have eg : (M1 + M2) * g = (M1 + M2) * (G : Int) * uu := by rw [hg, Int.mul_assoc]
    have s2 : Sm ((M1 + M2) * g) := Sm.mk' eg (by omega) (by omega)
    have s1 : Sm (ZD (atT t.at_ j) + ZD (atT t.at_ (j + 1))) := Sm.mk' (M := 2 * ((M1 + M2) * (G : Int))) (by
      show ZT t j + ZT t (j + 1) = _
      rw [ez, eg, Int.mul_assoc 2, Int.mul_comm 2]) (by show _ ≤ ZT t j + ZT t (j + 1); omega) (by show ZT t j + ZT t (j + 1) ≤ _; omega)
    obtain ⟨d, hd, hz⟩ := mid_sm (T.gd j (by omega)) (T.gd (j + 1) hj) (Int.le_of_lt (T.inc j hj)) ez s1 s2
    exact ⟨d, hd, _, hz⟩
  have gr' : ∀ i, i ≤ t.v.length → ∃ M : Int, ZT t i = M * g := fun i hi => by
    obtain ⟨M, e⟩ := gr i hi
    exact ⟨M * 2, by rw [e, Int.mul_assoc, Int.mul_comm 2]⟩
  obtain ⟨m', hm, hP⟩ := halvL_made (t := t) (P := fun z => ∃ M : Int, z = M * g) t.v 0 [atT t.at_ 0] [] (fun j _ h => step j (by omega)) (fun j _ h => gr' j (by omega)) (fun x hx => by
    obtain rfl := List.mem_singleton.1 hx
    exact gr' 0 (Nat.zero_le _))
  have he : halveT t = (m', 0) := by
    unfold halveT
    rw [T.may, decide_eq_false (show ¬ ((256 : Int) < ((2 * t.v.length : Nat) : Int)) by omega)]
    exact hm
  have h3 := k.out.trans he
  cases h3
  obtain ⟨r1, E, _⟩ := halve_is T he
  refine ⟨rfl, E.A, by omega, fun k u hk => ?_, E.z0.trans K.z0, E.z1.trans K.z1, hP⟩
  obtain ⟨j, hj, _⟩ := E.val (ZT m k) u ⟨k, hk, Int.le_refl _, E.A.inc k (get_lt hk)⟩
  exact K.cells j u hj
theorem make_got {a b : Dy} {v : Iv} {p : List Dy} {q : List Iv} {e : Int} (ga : GD a) (gb : GD b) (h : ZD a < ZD b) (V : OkI v) (k : Hid ((⟨p, q⟩, e) = makeT a b v)) : e = 0 ∧ p = [a, b] ∧ q = [v] := by
  have h1 := k.out
  unfold makeT at h1
  rw [one_cell ga gb h V] at h1
  injection h1 with h2 h3
  injection h2 with h4 h5
  exact ⟨h3, h4, h5⟩
theorem Mk.first {a b : Dy} {v : Iv} {g : Int} (ga : GD a) (gb : GD b) (h : ZD a < ZD b) (V : OkI v) (hg1 : ∃ M : Int, ZD a = M * g) (hg2 : ∃ M : Int, ZD b = M * g) : Mk ⟨[a, b], [v]⟩ v (ZD a) (ZD b) g 1 := by
  refine ⟨OkT.of (one_cell ga gb h V) (lim_one ga gb V), rfl, fun k u hk => ?_, rfl, rfl, fun x hx => ?_⟩
  · have hl := get_lt hk
    have hk0 : k = 0 := by have : k < 1 := hl; omega
    subst hk0
    have hw' : ([v] : List Iv)[0]? = some u := hk
    cases hw'
    rfl
  · have hx : x ∈ [a, b] := hx
    simp only [List.mem_cons, List.not_mem_nil, or_false] at hx
    rcases hx with rfl | rfl
    · exact hg1
    · exact hg2
/-- Over any span it is its one value. -/
theorem Mk.over {t : Tb} {v : Iv} {lo hi g : Int} {n : Nat} {x y l h : Dy} {e : Int} (K : Mk t v lo hi g n) (V : OkI v) (gx : GD x) (gy : GD y) (h1 : lo ≤ ZD x) (h2 : ZD x ≤ ZD y) (h3 : ZD y ≤ hi) (k : Hid ((⟨l, h⟩, e) = overT t x y)) : e = 0 ∧ sameI ⟨l, h⟩ v = true := by
  have T := K.T
  have z0 := K.z0
  have z1 := K.z1
  obtain ⟨c, C⟩ := over_is T gx gy (by omega) h2 (by omega)
  have h4 := k.out.trans C.eq
  cases h4
  refine ⟨rfl, (C.ok.g.same V.g).2 ?_⟩
  have lw := C.low (ZD v.lo) (ZD v.hi) fun i u hu _ _ => by
    rw [K.cells i u hu]
    exact ⟨Int.le_refl _, Int.le_refl _⟩
  obtain ⟨j, j1, j2, j3⟩ := T.some (z := ZD x) (by omega) (by omega)
  obtain ⟨u, hu⟩ := get_ex (l := t.v) j1 (Nat.le_refl _)
  have ea := C.each j u hu j3 (by omega)
  rw [K.cells j u hu] at ea
  obtain ⟨a1, a2⟩ := ea
  have a1 : ZD l ≤ ZD v.lo := a1
  have a2 : ZD v.hi ≤ ZD h := a2
  have b1 : ZD v.lo ≤ ZD l := lw.1
  have b2 : ZD h ≤ ZD v.hi := lw.2
  exact ⟨by show ZD l = ZD v.lo; omega, by show ZD h = ZD v.hi; omega⟩
/-- The numbers of TubeMade. -/
theorem of_got {j x : Int} {d : Dy} (h1 : -1000 ≤ j) (h2 : j ≤ 1000) (k : Hid ((d, x) = ofS j (-3))) : x = 0 ∧ GD d ∧ ZD d = j * 131072 * uu := by
  have hS := SS_eq
  have hU := UU_eq
  have hu := uu_pos
  have e := k.out
  have hp : ((2 ^ (-3 + (SS : Int)).toNat : Nat) : Int) = 131072 * uu := by
    unfold uu
    rw [show (-3 + (SS : Int)).toNat = UU + 17 by omega, Nat.pow_add, Int.natCast_mul, Int.mul_comm]
    rfl
  rw [ofS_Z (by omega), hp, ← Int.mul_assoc] at e
  have b1 : (-131072000) * uu ≤ j * 131072 * uu := Int.mul_le_mul_of_nonneg_right (by omega) (Int.le_of_lt hu)
  have b2 : j * 131072 * uu ≤ 131072000 * uu := Int.mul_le_mul_of_nonneg_right (by omega) (Int.le_of_lt hu)
  exact (Sm.mk' rfl (by omega) (by omega)).got e
theorem of0_got {j x : Int} {d : Dy} (h1 : 0 ≤ j) (h2 : j ≤ 1000) (k : Hid ((d, x) = ofS j 0)) : x = 0 ∧ GD d ∧ ZD d = j * 1048576 * uu := by
  have hS := SS_eq
  have hu := uu_pos
  have e := k.out
  rw [ofS_Z (by omega), show (0 + (SS : Int)).toNat = SS by omega, pow_SU, ← Int.mul_assoc] at e
  have b1 : 0 * uu ≤ j * 1048576 * uu := Int.mul_le_mul_of_nonneg_right (by omega) (Int.le_of_lt hu)
  have b2 : j * 1048576 * uu ≤ 1048576000 * uu := Int.mul_le_mul_of_nonneg_right (by omega) (Int.le_of_lt hu)
  exact (Sm.mk' rfl (by omega) (by omega)).got e
theorem add_got {a b d : Dy} {x M : Int} (ga : GD a) (gb : GD b) (h : ZD a + ZD b = M * uu) (h1 : -1000000000000 ≤ M) (h2 : M ≤ 1000000000000) (k : Hid ((d, x) = twoS a b (sumS a b))) : x = 0 ∧ GD d ∧ ZD d = M * uu := by
  have hu := uu_pos
  have e := k.out
  rw [twoS_of ga.may gb.may, sumS_Z ga.may ga.lim gb.may gb.lim, h] at e
  exact Sm.got (show Sm (M * uu) from ⟨M, rfl, by omega⟩) e
theorem mul_got {a b d : Dy} {x M : Int} (ga : GD a) (gb : GD b) (h : ZD a * ZD b = M * uu * ((2 ^ SS : Nat) : Int)) (h1 : -1000000000000 ≤ M) (h2 : M ≤ 1000000000000) (k : Hid ((d, x) = twoS a b (mulS a b))) : x = 0 ∧ GD d ∧ ZD d = M * uu := by
  have e := k.out
  rw [twoS_of ga.may gb.may, mulS_Z ga gb h] at e
  exact Sm.got (show Sm (M * uu) from ⟨M, rfl, by omega⟩) e
theorem shift_got {a d : Dy} {x M : Int} (ga : GD a) (h : ZD a = M * 64 * uu) (h1 : -1000000000000 ≤ M) (h2 : M ≤ 1000000000000) (k : Hid ((d, x) = shiftS a (-6))) : x = 0 ∧ GD d ∧ ZD d = M * uu := by
  have e := k.out
  have := shift_down (k := 6) (z := M * uu) ga (by omega) (by rw [h, Int.mul_assoc, Int.mul_comm 64, ← Int.mul_assoc]; rfl)
  rw [show (-((6 : Nat) : Int)) = -6 from rfl] at this
  rw [this] at e
  exact Sm.got (show Sm (M * uu) from ⟨M, rfl, by omega⟩) e
theorem Mk.half {t m : Tb} {v : Iv} {lo hi : Int} {i : Nat} {e : Int} (hi5 : i < 5) (K : Mk t v lo hi (((2 ^ (17 - i) : Nat) : Int) * uu) (2 ^ i)) (h1 : -(549755813888 * uu) ≤ lo) (h2 : hi ≤ 549755813888 * uu) (k : Hid ((m, e) = halveT t)) : e = 0 ∧ Mk m v lo hi (((2 ^ (17 - (i + 1)) : Nat) : Int) * uu) (2 ^ (i + 1)) := by
  have e1 : ((2 ^ (17 - i) : Nat) : Int) * uu = (((2 ^ (17 - (i + 1)) : Nat) : Int) * uu) * 2 := by
    rw [show 17 - i = 17 - (i + 1) + 1 by omega, Nat.pow_succ, Int.natCast_mul, Int.mul_assoc, Int.mul_comm ((2 : Nat) : Int), ← Int.mul_assoc]
    rfl
  rw [e1] at K
  have h3 : 2 ^ i ≤ 100 := by
    have := Nat.pow_le_pow_right (n := 2) (by omega) (show i ≤ 5 by omega)
    omega
  rw [Nat.pow_succ, Nat.mul_comm]
  exact K.step rfl h3 h1 h2 k
theorem mul_units {N P R x y : Int} (hR : R = N * P) (hx : x = N * 2048 * uu) (hy : y = P * 1048576 * uu) : x * y = R * 2048 * uu * ((2 ^ SS : Nat) : Int) := by
  rw [pow_SU, hx, hy, hR]
  generalize uu = u
  ac_rfl
theorem pr_shl1 {k : Nat} (h : k ≤ 5) : Sx.Prim.ev .shl [.int .i64 1, .int .u64 (k : Int)] = some (.int .i64 ((2 ^ k : Nat) : Int)) := by
  rcases k with _ | _ | _ | _ | _ | _ | k
  · rfl
  · rfl
  · rfl
  · rfl
  · rfl
  · rfl
  · omega
/-- Beginning, end and a time between, in units. -/
theorem made_bounds {A N R : Int} (hA1 : -16 ≤ A) (hA2 : A ≤ 16) (hN1 : 1 ≤ N) (hN2 : N ≤ 16) (hR1 : 0 ≤ R) (hR2 : R ≤ 64 * N) :
    -(549755813888 * uu) ≤ A * 131072 * uu ∧ (A * 131072 + N * 131072) * uu ≤ 549755813888 * uu ∧ A * 131072 * uu < (A * 131072 + N * 131072) * uu ∧ A * 131072 * uu ≤ (A * 131072 + R * 2048) * uu ∧ (A * 131072 + R * 2048) * uu ≤ (A * 131072 + N * 131072) * uu := by
  have hu := uu_pos
  have hu0 := Int.le_of_lt hu
  have m1 := Int.mul_le_mul_of_nonneg_right (show (-549755813888 : Int) ≤ A * 131072 by omega) hu0
  have m2 := Int.mul_le_mul_of_nonneg_right (show A * 131072 + N * 131072 ≤ 549755813888 by omega) hu0
  have m3 := Int.mul_lt_mul_of_pos_right (show A * 131072 < A * 131072 + N * 131072 by omega) hu
  have m4 := Int.mul_le_mul_of_nonneg_right (show A * 131072 ≤ A * 131072 + R * 2048 by omega) hu0
  have m5 := Int.mul_le_mul_of_nonneg_right (show A * 131072 + R * 2048 ≤ A * 131072 + N * 131072 by omega) hu0
  rw [Int.neg_mul] at m1
  exact ⟨m1, m2, m3, m4, m5⟩
end Go.Proofs.YtbpfnooloemieaaDoor
