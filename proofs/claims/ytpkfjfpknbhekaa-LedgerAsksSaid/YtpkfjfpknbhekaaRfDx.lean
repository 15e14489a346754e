/- Contracts of the document's answer sluicewayref1, part D: Of, size, CmpDyad. Contracts of the document's answer sluicewayref1, part E: CmpDyad, Less. -/
import Derived.Test.YtpkfjfpknbhekaaRfBx
import Derived.Test.YtpkfjfpknbhekaaKitBx
namespace Go.Proofs.Ytpkfjfpknbhekaa
open Go.RowKit Pl
attribute [local go_sem ↓] Go.wp_at_zero Go.wp_at_succ

/-- A value that reads as a number of the document's answer: sign, natural, exponent. -/
def RdR (w : World) (v : Value) (neg : Bool) (X : Nat) (e : Int) : Prop := ∃ A n c, v = .agg #[.bool neg, .slice A n c, .int .i64 e] ∧ RdN .u32 w A n c (limbs DD X)
theorem RdR.below {w w' : World} {v : Value} {neg : Bool} {X : Nat} {e : Int} (h : RdR w v neg X e) (hb : Below w.heap.size w w') : RdR w' v neg X e := by
  obtain ⟨A, n, c, hv, hr⟩ := h; exact ⟨A, n, c, hv, hr.below hb⟩
theorem rshl_int (A : Option Addr) (n c X : Nat) (k : Int) (w : World) (h : RdN .u32 w A n c (limbs DD X)) (hn : n ≤ 100000) (hk0 : 0 ≤ k) (hk : k ≤ 1000000) :
    Calls Try.prog 98 #[.slice A n c, .int .i64 k] w fun e w' => ∃ v, e = .returned v ∧ R16 w' v (X * 2 ^ k.toNat) ∧ Below w.heap.size w w' := by
  obtain ⟨m, rfl⟩ := Int.eq_ofNat_of_zero_le hk0
  rw [Int.toNat_natCast]
  exact rshl_any A n c X m w h hn (by omega)
theorem rcmpR (u v : Value) (X Y : Nat) (w : World) (h : R16 w u X) (k : R16 w v Y) :
    Calls Try.prog 97 #[u, v] w fun e w' => e = .returned (.int .i64 (cmpN X Y)) ∧ Below w.heap.size w w' := by
  obtain ⟨A, n, c, rfl, hr⟩ := h
  obtain ⟨B, m, d, rfl, kr⟩ := k
  rw [← cmpL_limbs DD_gt1]
  exact rcmp_any A n c _ B m d _ w hr kr
theorem rbitsX (A : Option Addr) (n c X : Nat) (w : World) (h : RdN .u32 w A n c (limbs DD X)) (hn : n ≤ 1000000) :
    Calls Try.prog 96 #[.slice A n c] w fun e w' => e = .returned (.int .i64 (blen X : Nat)) ∧ w = w' := by
  rw [← bits16_limbs]
  exact rbits_any A n c _ w h (limbs_lim DD_gt1 _) hn
theorem dig_len' {w : World} {A : Option Addr} {n c X k : Nat} (h : RdN .u32 w A n c (limbs DD X)) (hX : blen X ≤ 16 * k) : n ≤ k := by
  refine h.len_dig ?_
  rw [pow_DD]
  exact blen_le.1 hX
theorem dig_len {w : World} {A : Option Addr} {n c X : Nat} (h : RdN .u32 w A n c (limbs DD X)) (hX : blen X ≤ 1000000) : n ≤ 62500 := dig_len' h (by omega)
theorem val_blen {xs : List Nat} (hl : Lim BB xs) : blen (val BB xs) ≤ 64 * xs.length := by
  have h1 := val_lt hl
  rw [pow_BB] at h1
  exact blen_le.2 h1
set_option maxRecDepth 100000 in
set_option maxHeartbeats 1000000 in
theorem of_any (v : Value) (d : Dy) (w : World) (h : RdD w v d) (hn : d.m.length ≤ 100000) :
    Calls Try.prog 92 #[v] w fun x w' => ∃ u, x = .returned u ∧ RdR w' u d.neg (val BB d.m) d.e ∧ Below w.heap.size w w' := by
  obtain ⟨A, n, c, rfl, hr, hl, he1, he2⟩ := h
  obtain ⟨neg, m, e⟩ := d
  simp only at hr hl he1 he2 hn ⊢
  have hlen := hr.len
  obtain ⟨hA, hB, hb0⟩ := box_2 w [.bool neg, .slice A n c, .int .i64 e] [.bool false, .slice none 0 0, .int .i64 0] 24 119
  go_enter Try.func92, Try.ntmps92
  go_wp2_with fail
  generalize ((w.alloc (.cells #[.bool neg, .slice A n c, .int .i64 e] 24)).alloc (.cells #[.bool false, .slice none 0 0, .int .i64 0] 119)) = W at *
  have hr1 := hr.below hb0
  have hs := hB.lt
  have c0 := hA.cellE (Nat.lt_succ_self _) 0 rfl
  have c1 := hA.cellE (Nat.lt_succ_self _) 1 rfl
  have c2 := hA.cellE (Nat.lt_succ_self _) 2 rfl
  go_region_held3 (fun w' => Below (w.heap.size + 1) W w') (first | exact (Below.refl _ _).drew | exact hSA | exact below_store3 hSA (Nat.le_refl _) _ _ _)
    (first
      | (go_at_call 99; (with_reducible refine (from_any A n c m _ hr1.drew hl (by omega)).mono ?_); rintro x wA ⟨A', n', c', rfl, hrA, hbA⟩; have hSA : Below (w.heap.size + 1) W wA := (Below.refl _ _).drew.trans (hbA.mono (Nat.le_of_lt hs)); have hB1 := hB.drew.keep hbA; have q0 := hB1.cell 0 rfl; have q1 := hB1.cell 1 rfl; have q2 := hB1.cell 2 rfl; have f0 := hB1.frozen 0; have f1 := hB1.frozen 1; have f2 := hB1.frozen 2))
  have hB2 := hB1.store3 (.bool neg) (.slice A' n' c') (.int .i64 e)
  have hr2 := hrA.store3 hB1 (.bool neg) (.slice A' n' c') (.int .i64 e) (by simp) (by simp)
  have hS2 := below_store3 hSA (Nat.le_refl _) (.bool neg) (.slice A' n' c') (.int .i64 e)
  have p0 := hB2.cell 0 rfl
  have p1 := hB2.cell 1 rfl
  have p2 := hB2.cell 2 rfl
  clear hA hB c0 c1 c2 q0 q1 q2 f0 f1 f2
  go_wp2
  refine bodyPost_ret (v := .agg #[.bool neg, .slice A' n' c', .int .i64 e]) (by simp [results, Try.results92, go_sem, p0, p1, p2]) rfl ⟨_, rfl, ⟨_, _, _, rfl, hr2⟩, hb0.trans (hS2.mono (Nat.le_succ _))⟩

/-- The order of two sizes. -/
def sizeR (X : Nat) (e : Int) (Y : Nat) (f : Int) : Int :=
  if (blen X : Int) + e < (blen Y : Int) + f then -1 else if (blen Y : Int) + f < (blen X : Int) + e then 1
  else cmpN (X * 2 ^ (e - min e f).toNat) (Y * 2 ^ (f - min e f).toNat)
set_option maxRecDepth 100000 in
set_option maxHeartbeats 1000000 in
theorem sizeR_any (u v : Value) (s1 : Bool) (X : Nat) (e : Int) (s2 : Bool) (Y : Nat) (f : Int) (w : World) (h : RdR w u s1 X e) (k : RdR w v s2 Y f) (hX : blen X ≤ 900000) (hY : blen Y ≤ 900000) (he : -1000000000 ≤ e ∧ e ≤ 1000000000) (hf : -1000000000 ≤ f ∧ f ≤ 1000000000) :
    Calls Try.prog 91 #[u, v] w fun x w' => x = .returned (.int .i64 (sizeR X e Y f)) ∧ Below w.heap.size w w' := by
  obtain ⟨A, n, c, rfl, hr⟩ := h
  obtain ⟨B, m, d, rfl, kr⟩ := k
  have hn : n ≤ 62500 := dig_len hr (by omega)
  have hm : m ≤ 62500 := dig_len kr (by omega)
  obtain ⟨hA, hB, hb0⟩ := box_2 w [.bool s1, .slice A n c, .int .i64 e] [.bool s2, .slice B m d, .int .i64 f] 119 119
  obtain ⟨he1, he2⟩ := he
  obtain ⟨hf1, hf2⟩ := hf
  obtain ⟨x, hx⟩ : ∃ x, x = blen X := ⟨_, rfl⟩
  obtain ⟨y, hy⟩ : ∃ y, y = blen Y := ⟨_, rfl⟩
  rw [← hx] at hX
  rw [← hy] at hY
  have HX : Hid (blen X = x) := hx.symm
  have HY : Hid (blen Y = y) := hy.symm
  have hS : Hid (sizeR X e Y f = if (x : Int) + e < (y : Int) + f then -1 else if (y : Int) + f < (x : Int) + e then 1 else cmpN (X * 2 ^ (e - min e f).toNat) (Y * 2 ^ (f - min e f).toNat)) := by
    unfold Hid sizeR; rw [hx, hy]
  clear hx hy
  go_enter Try.func91, Try.ntmps91
  go_upto_region 1 with fail
  generalize ((w.alloc (.cells #[.bool s1, .slice A n c, .int .i64 e] 119)).alloc (.cells #[.bool s2, .slice B m d, .int .i64 f] 119)) = W at *
  have hr1 := hr.below hb0
  have kr1 := kr.below hb0
  have a1 := hA.cell 1 rfl
  have a2 := hA.cell 2 rfl
  have b1 := hB.cell 1 rfl
  have b2 := hB.cell 2 rfl
  by_cases h1 : (x : Int) + e < (y : Int) + f
  · have d1 : decide ((x : Int) + e < (y : Int) + f) = true := by simpa using h1
    have d0 : ((x : Int) + e != (y : Int) + f) = true := by rw [bne_iff_ne]; omega
    have hres : Hid (sizeR X e Y f = -1) := by unfold Hid; rw [hS.out, if_pos h1]
    go_quiet ((go_at_call 96; first | (with_reducible refine quiet1 (v := .int .i64 (x : Int)) ?_; rw [← HX.out]; with_reducible exact rbitsX A n c X _ (hr1.drewN _) (by omega)) | (with_reducible refine quiet1 (v := .int .i64 (y : Int)) ?_; rw [← HY.out]; with_reducible exact rbitsX B m d Y _ (kr1.drewN _) (by omega))))
    go_wp2
    go_ret
    exact ⟨ret_int hres.out.symm, below_drewN hb0 _⟩
  · by_cases h2 : (y : Int) + f < (x : Int) + e
    · have d1 : decide ((x : Int) + e < (y : Int) + f) = false := by simpa using h1
      have d0 : ((x : Int) + e != (y : Int) + f) = true := by rw [bne_iff_ne]; omega
      have hres : Hid (sizeR X e Y f = 1) := by unfold Hid; rw [hS.out, if_neg h1, if_pos h2]
      go_quiet ((go_at_call 96; first | (with_reducible refine quiet1 (v := .int .i64 (x : Int)) ?_; rw [← HX.out]; with_reducible exact rbitsX A n c X _ (hr1.drewN _) (by omega)) | (with_reducible refine quiet1 (v := .int .i64 (y : Int)) ?_; rw [← HY.out]; with_reducible exact rbitsX B m d Y _ (kr1.drewN _) (by omega))))
      go_wp2
      go_ret
      exact ⟨ret_int hres.out.symm, below_drewN hb0 _⟩
    · have d0 : ((x : Int) + e != (y : Int) + f) = false := by rw [bne_eq_false_iff_eq]; omega
      obtain ⟨low, hlow⟩ : ∃ low, low = min e f := ⟨_, rfl⟩
      have hres : Hid (sizeR X e Y f = cmpN (X * 2 ^ (e - low).toNat) (Y * 2 ^ (f - low).toNat)) := by unfold Hid; rw [hS.out, if_neg h1, if_neg h2, hlow]
      have l1 : 0 ≤ e - low := by omega
      have l2 : 0 ≤ f - low := by omega
      have l3 : e - low ≤ 1000000 := by omega
      have l4 : f - low ≤ 1000000 := by omega
      have w1 : IntKind.i64.wrap (e - low) = e - low := IntWalk.i64_in _ (by omega)
      have w2 : IntKind.i64.wrap (f - low) = f - low := IntWalk.i64_in _ (by omega)
      have HL := hide hlow
      clear hlow
      go_quiet ((go_at_call 96; first | (with_reducible refine quiet1 (v := .int .i64 (x : Int)) ?_; rw [← HX.out]; with_reducible exact rbitsX A n c X _ (hr1.drewN _) (by omega)) | (with_reducible refine quiet1 (v := .int .i64 (y : Int)) ?_; rw [← HY.out]; with_reducible exact rbitsX B m d Y _ (kr1.drewN _) (by omega))))
      go_upto_region 7 with fail
      rw [← HL.out]
      have hbq : Below w.heap.size w (W.drewN nq) := below_drewN hb0 nq
      have hAq := hA.drewN nq
      have hBq := hB.drewN nq
      have hrq := hr1.drewN nq
      have krq := kr1.drewN nq
      generalize W.drewN nq = wq at *
      clear a1 a2 b1 b2 hr1 kr1 hA hB
      have a1 := hAq.cellE hAq.lt 1 rfl
      have a2 := hAq.cellE hAq.lt 2 rfl
      have b1 := hBq.cellE hBq.lt 1 rfl
      have b2 := hBq.cellE hBq.lt 2 rfl
      go_region_held3 (fun w' => Below wq.heap.size wq w') (first | exact (Below.refl _ _).drew | exact below_then (by assumption) hbA | exact below_then (by assumption) hbB | exact below_then (by assumption) hbC)
        (first
          | (go_at_call 98; (with_reducible refine (rshl_int A n c X _ _ (hrq.below (by assumption)) (by omega) l1 l3).mono ?_); rintro z wA ⟨vA, rfl, hvA, hbA⟩)
          | (go_at_call 98; (with_reducible refine (rshl_int B m d Y _ _ (krq.below (by assumption)) (by omega) l2 l4).mono ?_); rintro z wB ⟨vB, rfl, hvB, hbB⟩)
          | (go_at_call 97; (with_reducible refine (rcmpR vA vB (X * 2 ^ (e - low).toNat) (Y * 2 ^ (f - low).toNat) _ ?_ ?_).mono ?_); (first | exact hvA | exact hvA.below hbB); (first | exact hvB | exact hvB.below hbA); rintro z wC ⟨rfl, hbC⟩))
      all_goals clear a1 a2 b1 b2
      all_goals have hbF : Below wq.heap.size wq _ := (by assumption)
      all_goals go_wp2
      all_goals go_ret
      all_goals exact ⟨ret_int hres.out.symm, below_then hbq (by assumption)⟩
end Go.Proofs.Ytpkfjfpknbhekaa
namespace Go.Proofs.Ytpkfjfpknbhekaa
open Go.RowKit Pl
attribute [local go_sem ↓] Go.wp_at_zero Go.wp_at_succ

theorem cmpSize_R {a b : Dy} (ha : mayD a = true) (hb : mayD b = true) (hla : Lim BB a.m) (hlb : Lim BB b.m) : cmpSize a b = sizeR (val BB a.m) a.e (val BB b.m) b.e := by
  obtain ⟨aC, a64, ae1, ae2⟩ := mayD_limbs ha
  obtain ⟨bC, b64, be1, be2⟩ := mayD_limbs hb
  unfold cmpSize sizeR
  rw [sizeN_can hla aC, sizeN_can hlb bC]
theorem blen64 {xs : List Nat} (hl : Lim BB xs) (h : xs.length ≤ 64) : blen (val BB xs) ≤ 4096 := by
  have := val_blen hl
  omega

set_option maxRecDepth 100000 in
set_option maxHeartbeats 2000000 in
theorem rcmpD_any (u v : Value) (a b : Dy) (w : World) (h : RdD w u a) (k : RdD w v b) :
    Calls Try.prog 87 #[u, v] w fun e w' => e = .returned (.int .i64 (cmpD a b)) ∧ Below w.heap.size w w' := by
  have h' := h
  have k' := k
  obtain ⟨A, n, c, rfl, hr, hl, he1, he2⟩ := h
  obtain ⟨B, m, d, rfl, kr, kl, ke1, ke2⟩ := k
  have hlen := hr.len
  have klen := kr.len
  obtain ⟨hA, hB, hb0⟩ := box_2 w [.bool a.neg, .slice A n c, .int .i64 a.e] [.bool b.neg, .slice B m d, .int .i64 b.e] 24 24
  go_enter Try.func87, Try.ntmps87
  go_upto_region 1 with fail
  generalize ((w.alloc (.cells #[.bool a.neg, .slice A n c, .int .i64 a.e] 24)).alloc (.cells #[.bool b.neg, .slice B m d, .int .i64 b.e] 24)) = W at *
  have hda := h'.below hb0
  have hdb := k'.below hb0
  clear h' k'
  have a0 := hA.cell 0 rfl
  have a1 := hA.cell 1 rfl
  have a2 := hA.cell 2 rfl
  have b0 := hB.cell 0 rfl
  have b1 := hB.cell 1 rfl
  have b2 := hB.cell 2 rfl
  by_cases hMa : mayD a = true
  · go_wp2_with fail
    refine (rmayD_any _ a _ hda).mono ?_
    rw [hMa]
    rintro x w1 ⟨rfl, hb1⟩
    clear a0 a1 a2 b0 b1 b2
    have hA1 := hA.keep hb1
    have hB1 := hB.keep hb1
    have hda1 := hda.below hb1
    have hdb1 := hdb.below hb1
    have hb01 := below_then hb0 hb1
    have a0 := hA1.cell 0 rfl
    have a1 := hA1.cell 1 rfl
    have a2 := hA1.cell 2 rfl
    have b0 := hB1.cell 0 rfl
    have b1 := hB1.cell 1 rfl
    have b2 := hB1.cell 2 rfl
    by_cases hMb : mayD b = true
    · go_wp2_with fail
      refine (rmayD_any _ b _ hdb1).mono ?_
      rw [hMb]
      rintro x w2 ⟨rfl, hb2⟩
      clear a0 a1 a2 b0 b1 b2
      have hA2 := hA1.keep hb2
      have hB2 := hB1.keep hb2
      have hda2 := hda1.below hb2
      have hdb2 := hdb1.below hb2
      have hb02 := below_then hb01 hb2
      clear hda hdb hda1 hdb1 hA hB hA1 hB1 hb1 hb2 hb01
      go_upto_region 3 with fail
      have a0 := hA2.ext 0 rfl
      have a1 := hA2.ext 1 rfl
      have a2 := hA2.ext 2 rfl
      have b0 := hB2.ext 0 rfl
      have b1 := hB2.ext 1 rfl
      have b2 := hB2.ext 2 rfl
      refine wp_region_ext w2 (Below.refl _ _) (by kernel_rfl) ?_
      repeat (quiet_step ((go_at_call 90; first | (with_reducible exact calls_ext (rsignD_any (.agg #[.bool a.neg, .slice A n c, .int .i64 a.e]) a _ (hda2.below (Ext.hb _)))) | (with_reducible exact calls_ext (rsignD_any (.agg #[.bool b.neg, .slice B m d, .int .i64 b.e]) b _ (hdb2.below (Ext.hb _)))))))
      refine wpQuiet_nil ?_
      rintro _ ⟨e3, rfl⟩
      have hb3 := e3.hb
      generalize e3.w = w3 at *
      have hA3 := hA2.keep hb3
      have hB3 := hB2.keep hb3
      have hda3 := hda2.below hb3
      have hdb3 := hdb2.below hb3
      have hb03 := below_then hb02 hb3
      clear a0 a1 a2 b0 b1 b2 hA2 hB2 hda2 hdb2 hb3 hb02
      have hn1 : ¬ (mayD a = false ∨ mayD b = false) := by simp [hMa, hMb]
      rcases Int.lt_trichotomy (signD a) (signD b) with hlt | heq | hgt
      · have hres : Hid (cmpD a b = -1) := by unfold Hid cmpD; rw [if_neg hn1, if_pos hlt]
        have t1 : (signD a != signD b) = true := by rw [bne_iff_ne]; omega
        have t2 : decide (signD a < signD b) = true := by simpa using hlt
        clear hn1 hlt
        go_wp2
        go_ret
        exact ⟨ret_int hres.out.symm, hb03⟩
      · have t1 : (signD a != signD b) = false := by rw [bne_eq_false_iff_eq]; exact heq
        by_cases hz : signD a = 0
        · have hres : Hid (cmpD a b = 0) := by unfold Hid cmpD; rw [if_neg hn1, if_neg (by omega), if_neg (by omega), if_pos hz]
          have t2 : (signD a == 0) = true := by simpa using hz
          have t3 : decide (signD a < signD b) = false := by simp; omega
          have t4 : decide (signD b < signD a) = false := by simp; omega
          clear hn1 heq hz
          go_wp2
          go_ret
          exact ⟨ret_int hres.out.symm, hb03⟩
        · have hres : Hid (cmpD a b = signD a * sizeR (val BB a.m) a.e (val BB b.m) b.e) := by unfold Hid cmpD; rw [if_neg hn1, if_neg (by omega), if_neg (by omega), if_neg hz, cmpSize_R hMa hMb hl kl]
          have t2 : (signD a == 0) = false := by simpa using hz
          have hS : -1 ≤ sizeR (val BB a.m) a.e (val BB b.m) b.e ∧ sizeR (val BB a.m) a.e (val BB b.m) b.e ≤ 1 := by rw [← cmpSize_R hMa hMb hl kl]; exact cmpSize_le a b
          obtain ⟨aC, a64, ae1, ae2⟩ := mayD_limbs hMa
          obtain ⟨bC, b64, be1, be2⟩ := mayD_limbs hMb
          have hX : blen (val BB a.m) ≤ 900000 := Nat.le_trans (blen64 hl a64) (by omega)
          have hY : blen (val BB b.m) ≤ 900000 := Nat.le_trans (blen64 kl b64) (by omega)
          obtain ⟨z, hzz⟩ : ∃ z, z = sizeR (val BB a.m) a.e (val BB b.m) b.e := ⟨_, rfl⟩
          rw [← hzz] at hS hres
          have HZ := hide hzz
          obtain ⟨hs1, hs2⟩ := signD_cases a |> fun h => (show -1 ≤ signD a ∧ signD a ≤ 1 by rcases h with h | h | h <;> omega)
          have m1 : IntKind.i64.wrap (signD a * z) = signD a * z := by
            refine IntWalk.i64_in _ ?_
            have : signD a = -1 ∨ signD a = 1 := by omega
            rcases this with h | h <;> rw [h] <;> omega
          have M1 := hide m1
          clear hn1 heq hz hzz m1 aC bC hs1 hs2 hS
          go_upto_region 10 with fail
          have c0 := hA3.cellE hA3.lt 0 rfl
          have c1 := hA3.cellE hA3.lt 1 rfl
          have c2 := hA3.cellE hA3.lt 2 rfl
          have d0 := hB3.cellE hB3.lt 0 rfl
          have d1 := hB3.cellE hB3.lt 1 rfl
          have d2 := hB3.cellE hB3.lt 2 rfl
          go_region_held3 (fun w' => Below w3.heap.size w3 w') (first | exact (Below.refl _ _).drew | exact below_then (by assumption) hbA | exact below_then (by assumption) hbB | exact below_then (by assumption) hbC)
            (first
              | (go_at_call 92; (with_reducible refine (of_any (.agg #[.bool a.neg, .slice A n c, .int .i64 a.e]) a _ (hda3.below (by assumption)) (by omega)).mono ?_); rintro x wA ⟨vA, rfl, hvA, hbA⟩)
              | (go_at_call 92; (with_reducible refine (of_any (.agg #[.bool b.neg, .slice B m d, .int .i64 b.e]) b _ (hdb3.below (by assumption)) (by omega)).mono ?_); rintro x wB ⟨vB, rfl, hvB, hbB⟩)
              | (go_at_call 91; (with_reducible refine (sizeR_any vA vB a.neg (val BB a.m) a.e b.neg (val BB b.m) b.e _ ?_ ?_ hX hY ?_ ?_).mono ?_); (first | exact hvA | exact hvA.below hbB); (first | exact hvB | exact hvB.below hbA); (constructor <;> omega); (constructor <;> omega); rw [← HZ.out]; rintro x wC ⟨rfl, hbC⟩))
          all_goals clear c0 c1 c2 d0 d1 d2
          all_goals have hbF : Below w3.heap.size w3 _ := (by assumption)
          all_goals go_wp2
          all_goals go_ret
          all_goals exact ⟨ret_int (M1.out.trans hres.out.symm), below_then hb03 (by assumption)⟩
      · have hres : Hid (cmpD a b = 1) := by unfold Hid cmpD; rw [if_neg hn1, if_neg (by omega), if_pos hgt]
        have t1 : (signD a != signD b) = true := by rw [bne_iff_ne]; omega
        have t2 : decide (signD a < signD b) = false := by simp; omega
        have t3 : decide (signD b < signD a) = true := by simpa using hgt
        clear hn1 hgt
        go_wp2
        go_ret
        exact ⟨ret_int hres.out.symm, hb03⟩
    · have hM' : mayD b = false := by simpa using hMb
      have hres : Hid (cmpD a b = 0) := by unfold Hid cmpD; rw [if_pos (.inr hM')]
      clear hMb
      go_wp2_with fail
      refine (rmayD_any _ b _ hdb1).mono ?_
      rw [hM']
      rintro x w2 ⟨rfl, hb2⟩
      go_wp2
      go_ret
      exact ⟨ret_int hres.out.symm, below_then hb01 hb2⟩
  · have hM' : mayD a = false := by simpa using hMa
    have hres : Hid (cmpD a b = 0) := by unfold Hid cmpD; rw [if_pos (.inl hM')]
    clear hMa
    go_wp2_with fail
    refine (rmayD_any _ a _ hda).mono ?_
    rw [hM']
    rintro x w2 ⟨rfl, hb2⟩
    go_wp2
    go_ret
    exact ⟨ret_int hres.out.symm, below_then hb0 hb2⟩
set_option maxRecDepth 100000 in
set_option maxHeartbeats 1000000 in
theorem less_any (u v : Value) (a b : Dy) (w : World) (h : RdD w u a) (k : RdD w v b) :
    Calls Try.prog 75 #[u, v] w fun e w' => e = .returned (.bool (decide (cmpD a b < 0))) ∧ Below w.heap.size w w' := by
  have h' := h
  have k' := k
  obtain ⟨A, n, c, rfl, hr, hl, he1, he2⟩ := h
  obtain ⟨B, m, d, rfl, kr, kl, ke1, ke2⟩ := k
  obtain ⟨hA, hB, hb0⟩ := box_2 w [.bool a.neg, .slice A n c, .int .i64 a.e] [.bool b.neg, .slice B m d, .int .i64 b.e] 24 24
  go_enter Try.func75, Try.ntmps75
  go_upto_region 1 with fail
  generalize ((w.alloc (.cells #[.bool a.neg, .slice A n c, .int .i64 a.e] 24)).alloc (.cells #[.bool b.neg, .slice B m d, .int .i64 b.e] 24)) = W at *
  have hda := h'.below hb0
  have hdb := k'.below hb0
  clear h' k'
  have a0 := hA.cell 0 rfl
  have a1 := hA.cell 1 rfl
  have a2 := hA.cell 2 rfl
  have b0 := hB.cell 0 rfl
  have b1 := hB.cell 1 rfl
  have b2 := hB.cell 2 rfl
  go_wp2_with fail
  refine (rcmpD_any _ _ a b _ hda hdb).mono ?_
  rintro x w2 ⟨rfl, hb2⟩
  go_wp2
  go_ret
  exact ⟨rfl, below_then hb0 hb2⟩
end Go.Proofs.Ytpkfjfpknbhekaa
