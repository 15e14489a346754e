/- Contracts of the document's answer sluicewayref1, part D: Of, size, CmpDyad. Contracts of the document's answer sluicewayref1, part E: CmpDyad, Less. -/
import Derived.Test.YteodljieiloebaaDoorRfBx
import Derived.Test.YteodljieiloebaaDoorKitBx
namespace Go.Proofs.YteodljieiloebaaDoor
open Go.RowKit Pl
attribute [local go_sem ↓] Go.wp_at_zero Go.wp_at_succ

/-- A value that reads as a number of the document's answer: sign, natural, exponent. -/
def RdR (w : World) (v : Value) (neg : Bool) (X : Nat) (e : Int) : Prop := ∃ A n c, v = .agg #[.bool neg, .slice A n c, .int .i64 e] ∧ RdN .u32 w A n c (limbs DD X)
theorem RdR.below {w w' : World} {v : Value} {neg : Bool} {X : Nat} {e : Int} (h : RdR w v neg X e) (hb : Below w.heap.size w w') : RdR w' v neg X e := by
  obtain ⟨A, n, c, hv, hr⟩ := h; exact ⟨A, n, c, hv, hr.below hb⟩
theorem rshl_int (A : Option Addr) (n c X : Nat) (k : Int) (w : World) (h : RdN .u32 w A n c (limbs DD X)) (hn : n ≤ 100000) (hk0 : 0 ≤ k) (hk : k ≤ 1000000) :
    Calls Tryd.prog 75 #[.slice A n c, .int .i64 k] w fun e w' => ∃ v, e = .returned v ∧ R16 w' v (X * 2 ^ k.toNat) ∧ Below w.heap.size w w' := by
  obtain ⟨m, rfl⟩ := Int.eq_ofNat_of_zero_le hk0
  rw [Int.toNat_natCast]
  exact rshl_any A n c X m w h hn (by omega)
theorem rcmpR (u v : Value) (X Y : Nat) (w : World) (h : R16 w u X) (k : R16 w v Y) :
    Calls Tryd.prog 77 #[u, v] w fun e w' => e = .returned (.int .i64 (cmpN X Y)) ∧ Below w.heap.size w w' := by
  obtain ⟨A, n, c, rfl, hr⟩ := h
  obtain ⟨B, m, d, rfl, kr⟩ := k
  rw [← cmpL_limbs DD_gt1]
  exact rcmp_any A n c _ B m d _ w hr kr
theorem rbitsX (A : Option Addr) (n c X : Nat) (w : World) (h : RdN .u32 w A n c (limbs DD X)) (hn : n ≤ 1000000) :
    Calls Tryd.prog 29 #[.slice A n c] w fun e w' => e = .returned (.int .i64 (blen X : Nat)) ∧ w = w' := by
  rw [← bits16_limbs]
  exact rbits_any A n c _ w h (limbs_lim DD_gt1 _) hn
theorem dig_len' {w : World} {A : Option Addr} {n c X k : Nat} (h : RdN .u32 w A n c (limbs DD X)) (hX : blen X ≤ 16 * k) : n ≤ k := by
  refine h.len_dig ?_
  rw [pow_DD]
  exact blen_le.1 hX
theorem dig_len {w : World} {A : Option Addr} {n c X : Nat} (h : RdN .u32 w A n c (limbs DD X)) (hX : blen X ≤ 1000000) : n ≤ 62500 := dig_len' h (by omega)
theorem val_blen {xs : List Nat} (hl : Lim BB xs) : blen (val BB xs) ≤ 64 * xs.length := by
  have h1 := val_lt hl
  rw [pow_BB] at h1
  exact blen_le.2 h1
theorem val_len {w : World} {A : Option Addr} {n c : Nat} {xs : List Nat} (h : RdN .u64 w A n c xs) (hl : Lim BB xs) (hn : n ≤ 10000) : blen (val BB xs) ≤ 640000 := by
  have := val_blen hl
  have := h.len
  omega

set_option maxRecDepth 100000 in
set_option maxHeartbeats 1000000 in
theorem of_any (v : Value) (d : Dy) (w : World) (h : RdD w v d) (hn : d.m.length ≤ 100000) :
    Calls Tryd.prog 58 #[v] w fun x w' => ∃ u, x = .returned u ∧ RdR w' u d.neg (val BB d.m) d.e ∧ Below w.heap.size w w' := by
  obtain ⟨A, n, c, rfl, hr, hl, he1, he2⟩ := h
  obtain ⟨neg, m, e⟩ := d
  simp only at hr hl he1 he2 hn ⊢
  have hlen := hr.len
  obtain ⟨hA, hB, hb0⟩ := box_2 w [.bool neg, .slice A n c, .int .i64 e] [.bool false, .slice none 0 0, .int .i64 0] 26 71
  go_enter Tryd.func58, Tryd.ntmps58
  go_wp2_with fail
  generalize ((w.alloc (.cells #[.bool neg, .slice A n c, .int .i64 e] 26)).alloc (.cells #[.bool false, .slice none 0 0, .int .i64 0] 71)) = W at *
  have hr1 := hr.below hb0
  have hs := hB.lt
  have c0 := hA.cellE (Nat.lt_succ_self _) 0 rfl
  have c1 := hA.cellE (Nat.lt_succ_self _) 1 rfl
  have c2 := hA.cellE (Nat.lt_succ_self _) 2 rfl
  go_region_held3 (fun w' => Below (w.heap.size + 1) W w') (first | exact (Below.refl _ _).drew | exact hSA | exact below_store3 hSA (Nat.le_refl _) _ _ _)
    (first
      | (go_at_call 30; (with_reducible refine (from_any A n c m _ hr1.drew hl (by omega)).mono ?_); rintro x wA ⟨A', n', c', rfl, hrA, hbA⟩; have hSA : Below (w.heap.size + 1) W wA := (Below.refl _ _).drew.trans (hbA.mono (Nat.le_of_lt hs)); have hB1 := hB.drew.keep hbA; have q0 := hB1.cell 0 rfl; have q1 := hB1.cell 1 rfl; have q2 := hB1.cell 2 rfl; have f0 := hB1.frozen 0; have f1 := hB1.frozen 1; have f2 := hB1.frozen 2))
  have hB2 := hB1.store3 (.bool neg) (.slice A' n' c') (.int .i64 e)
  have hr2 := hrA.store3 hB1 (.bool neg) (.slice A' n' c') (.int .i64 e) (by simp) (by simp)
  have hS2 := below_store3 hSA (Nat.le_refl _) (.bool neg) (.slice A' n' c') (.int .i64 e)
  have p0 := hB2.cell 0 rfl
  have p1 := hB2.cell 1 rfl
  have p2 := hB2.cell 2 rfl
  clear hA hB c0 c1 c2 q0 q1 q2 f0 f1 f2
  go_wp2
  refine bodyPost_ret (v := .agg #[.bool neg, .slice A' n' c', .int .i64 e]) (by simp [results, Tryd.results58, go_sem, p0, p1, p2]) rfl ⟨_, rfl, ⟨_, _, _, rfl, hr2⟩, hb0.trans (hS2.mono (Nat.le_succ _))⟩

/-- The order of two sizes. -/
def sizeR (X : Nat) (e : Int) (Y : Nat) (f : Int) : Int :=
  if (blen X : Int) + e < (blen Y : Int) + f then -1 else if (blen Y : Int) + f < (blen X : Int) + e then 1
  else cmpN (X * 2 ^ (e - min e f).toNat) (Y * 2 ^ (f - min e f).toNat)
end Go.Proofs.YteodljieiloebaaDoor
namespace Go.Proofs.YteodljieiloebaaDoor
open Go.RowKit Pl
attribute [local go_sem ↓] Go.wp_at_zero Go.wp_at_succ

theorem cmpSize_R {a b : Dy} (ha : mayD a = true) (hb : mayD b = true) (hla : Lim BB a.m) (hlb : Lim BB b.m) : cmpSize a b = sizeR (val BB a.m) a.e (val BB b.m) b.e := by
  obtain ⟨aC, a64, ae1, ae2⟩ := mayD_limbs ha
  obtain ⟨bC, b64, be1, be2⟩ := mayD_limbs hb
  unfold cmpSize sizeR
  rw [sizeN_can hla aC, sizeN_can hlb bC]
theorem blen64 {xs : List Nat} (hl : Lim BB xs) (h : xs.length ≤ 64) : blen (val BB xs) ≤ 4096 := by
  have := val_blen hl
  omega

end Go.Proofs.YteodljieiloebaaDoor
