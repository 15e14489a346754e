/- The quotient's limb (nat.digit): a piece of a row; what a call that only writes one block keeps. The quotient's limb (nat.digit): the walk. -/
import Derived.Test.YteodljieiloebaaDoorAppZx
import Derived.Test.YteodljieiloebaaDoorNatFx
namespace Go.Proofs.YteodljieiloebaaDoor
open Go.RowKit Pl

/-- A piece of a row, from place J on, put anew. -/
def emb (us : List Nat) (J : Nat) (cur : List Nat) : List Nat := us.take J ++ (cur ++ us.drop (J + cur.length))
section
variable {us cur : List Nat} {J : Nat} (h : J + cur.length ≤ us.length)
include h
theorem emb_nth {k : Nat} (hk : k < cur.length) : nth (emb us J cur) (J + k) = nth cur k := by
  unfold emb nth
  rw [List.getD_eq_getElem?_getD, List.getD_eq_getElem?_getD, List.getElem?_append_right (by rw [List.length_take]; omega), List.length_take, Nat.min_eq_left (by omega), Nat.add_sub_cancel_left, List.getElem?_append_left hk]
theorem emb_set {k : Nat} (hk : k < cur.length) (v : Nat) : (emb us J cur).set (J + k) v = emb us J (cur.set k v) := by
  unfold emb
  rw [List.set_append_right _ _ (by rw [List.length_take]; omega), List.length_take, Nat.min_eq_left (by omega), Nat.add_sub_cancel_left, List.set_append_left _ _ hk, List.length_set]
end
theorem emb_self {us : List Nat} {J m : Nat} (h : J + m ≤ us.length) : emb us J ((us.drop J).take m) = us := by
  unfold emb
  rw [List.length_take, List.length_drop, Nat.min_eq_left (by omega), ← List.drop_drop, List.take_append_drop, List.take_append_drop]
theorem seg_len {us : List Nat} {J m : Nat} (h : J + m ≤ us.length) : ((us.drop J).take m).length = m := by
  rw [List.length_take, List.length_drop]; omega

/-! Only block g has changed. -/
theorem only_refl (w : World) (g : Nat) : w.grownBy w (some g) := ⟨rfl, rfl, rfl, Nat.le_refl _, fun _ _ _ => rfl⟩
theorem only_set {w0 w : World} {g : Nat} (h : w0.grownBy w (some g)) (j : Nat) (v : Value) : w0.grownBy (w.setCell ⟨g, j, none⟩ v) (some g) :=
  ⟨h.os, h.tape, h.output, by simpa [World.setCell] using h.size, fun k hk hne => by
    rw [Below.heap_setCell _ _ _ _ (by intro e; exact hne (by simpa using e))]
    exact h.block k hk hne⟩
theorem only_drewN {w0 w : World} {g : Nat} (h : w0.grownBy w (some g)) (k : Nat) : w0.grownBy (w.drewN k) (some g) := ⟨h.os, h.tape, h.output, h.size, h.block⟩
theorem only_below {w0 w w' : World} {g : Nat} (h : w0.grownBy w (some g)) (hb : Below w.heap.size w w') : w0.grownBy w' (some g) :=
  ⟨hb.os.trans h.os, hb.tape.trans h.tape, hb.output.trans h.output, Nat.le_trans h.size hb.size, fun k hk hne => (hb.block k (Nat.lt_of_lt_of_le hk h.size)).trans (h.block k hk hne)⟩
theorem only_cell {w w' : World} {g b o : Nat} (h : w.grownBy w' (some g)) (hb : b < w.heap.size) (hne : b ≠ g) : w'.cell? ⟨b, o, none⟩ = w.cell? ⟨b, o, none⟩ :=
  World.cell?_of_block (h.block b hb (by simpa using hne))
theorem below_only {B : Nat} {w0 w w' : World} {g : Nat} (h : Below B w0 w) (hg : w.grownBy w' (some g)) (hB : B ≤ g) (hs : B ≤ w.heap.size) : Below B w0 w' :=
  h.grown hg hs (fun k hk => by simp at hk; omega)
theorem two_le {hi lo r t : Nat} (h : hi < r) (hl : lo < BB) : hi * BB + lo ≤ r * BB + t := by
  have h1 : (hi + 1) * BB ≤ r * BB := Nat.mul_le_mul_right _ h
  rw [Nat.add_mul, Nat.one_mul] at h1
  omega
theorem two_lt {hi lo r t : Nat} (h : r < hi) (ht : t < BB) : r * BB + t < hi * BB + lo := by
  have h1 : (r + 1) * BB ≤ hi * BB := Nat.mul_le_mul_right _ h
  rw [Nat.add_mul, Nat.one_mul] at h1
  omega

end Go.Proofs.YteodljieiloebaaDoor
namespace Go.Proofs.YteodljieiloebaaDoor
open Go.RowKit Pl

set_option maxRecDepth 100000 in
set_option maxHeartbeats 4000000 in
theorem digit_any (base g J n N cap cu : Nat) (us vs : List Nat) (bv off cv : Nat) (w : World) (hown : w.ownsRow base 58 1 (.slice (some ⟨g, 0, none⟩) N cap) N (U .u64 us)) (hJ : J + (n + 1) ≤ N) (hN : N ≤ 100000)
    (hcu : n + 1 ≤ cu ∧ cu ≤ 9223372036854775807) (hn : vs.length = n) (hcv : n ≤ cv ∧ cv ≤ 9223372036854775807) (hbv : bv < w.heap.size) (hc : ∀ k, k < n → w.cell? ⟨bv, off + k, none⟩ = some (.int .u64 (nth vs k : Nat))) (hne : bv ≠ g)
    (H : Tops BB ((us.drop J).take (n + 1)) vs) :
    Calls Tryd.prog 99 #[.slice (some ⟨g, J, none⟩) (n + 1) cu, .slice (some ⟨bv, off, none⟩) n cv] w fun e w' => ∃ seg, e = .returned (.int .u64 (val BB ((us.drop J).take (n + 1)) / val BB vs : Nat)) ∧
      seg.length = n + 1 ∧ Lim BB seg ∧ val BB seg = val BB ((us.drop J).take (n + 1)) % val BB vs ∧ w'.ownsRow base 58 1 (.slice (some ⟨g, 0, none⟩) N cap) N (U .u64 (emb us J seg)) ∧ w.grownBy w' (some g) := by
  have hul := own_len hown
  have HUL := hide hul
  have hsl := seg_len (us := us) (J := J) (m := n + 1) (by omega)
  have hse := emb_self (us := us) (J := J) (m := n + 1) (by omega)
  obtain ⟨s0, hs0⟩ : ∃ s0, s0 = (us.drop J).take (n + 1) := ⟨_, rfl⟩
  rw [← hs0] at hsl hse H ⊢
  clear hs0
  rw [← hse] at hown
  have hlen2 := H.lenv
  rw [hn] at hlen2
  have hcell : ∀ {wr : World} {cur : List Nat} (k : Nat), cur.length = n + 1 → wr.ownsRow base 58 1 (.slice (some ⟨g, 0, none⟩) N cap) N (U .u64 (emb us J cur)) → k < n + 1 → wr.cell? ⟨g, J + k, none⟩ = some (.int .u64 (nth cur k : Nat)) := by
    intro wr cur k hl ho hk
    rw [own_cell ho (J + k) (by omega), emb_nth (by omega) (by omega)]
  obtain ⟨t, ht⟩ : ∃ t, t = nth s0 n := ⟨_, rfl⟩
  obtain ⟨t1, ht1⟩ : ∃ t, t = nth s0 (n - 1) := ⟨_, rfl⟩
  obtain ⟨t2, ht2⟩ : ∃ t, t = nth s0 (n - 2) := ⟨_, rfl⟩
  obtain ⟨v1, hv1⟩ : ∃ t, t = nth vs (n - 1) := ⟨_, rfl⟩
  obtain ⟨v2, hv2⟩ : ∃ t, t = nth vs (n - 2) := ⟨_, rfl⟩
  have c0 := hcell n hsl hown (by omega)
  have c1 := hcell (n - 1) hsl hown (by omega)
  have c2 := hcell (n - 2) hsl hown (by omega)
  have d1 := hc (n - 1) (by omega)
  have d2 := hc (n - 2) (by omega)
  have l0 : t < BB := by rw [ht]; exact H.limu.getD BB_pos _
  have l1 : t1 < BB := by rw [ht1]; exact H.limu.getD BB_pos _
  have l2 : t2 < BB := by rw [ht2]; exact H.limu.getD BB_pos _
  have m1 : v1 < BB := by rw [hv1]; exact H.limv.getD BB_pos _
  have m2 : v2 < BB := by rw [hv2]; exact H.limv.getD BB_pos _
  rw [← ht] at c0
  rw [← ht1] at c1
  rw [← ht2] at c2
  rw [← hv1] at d1
  rw [← hv2] at d2
  have i1 : ((n : Int) - 1).toNat = n - 1 := by omega
  have i2 : ((n : Int) - 2).toNat = n - 2 := by omega
  have i3 : (0 : Int) ≤ (n : Int) - 1 := by omega
  have j1 : (1 : Int) ≤ (n : Int) := by omega
  have j2 : (2 : Int) ≤ (n : Int) := by omega
  have i4 : (n : Int) - 1 < (n : Int) := by omega
  have i5 : (n : Int) - 1 < (n : Int) + 1 := by omega
  have i6 : (n : Int) < (n : Int) + 1 := by omega
  have i7 : (0 : Int) ≤ (n : Int) - 2 := by omega
  have i8 : (n : Int) - 2 < (n : Int) := by omega
  have i9 : (n : Int) - 2 < (n : Int) + 1 := by omega
  have HH := hide H
  have HS := hide hsl
  have HW := hide hown
  obtain ⟨hcu1, hcu2⟩ := hcu
  obtain ⟨hcv1, hcv2⟩ := hcv
  have hgl : g < w.heap.size := World.block_lt_of_cell? w _ c0
  have HT := hide ht
  have HT1 := hide ht1
  have HT2 := hide ht2
  have HV1 := hide hv1
  have HV2 := hide hv2
  have HBC := hide hc
  obtain ⟨V, hV⟩ : ∃ V, V = val BB vs := ⟨_, rfl⟩
  obtain ⟨Q, hQ⟩ : ∃ Q, Q = val BB s0 / V := ⟨_, rfl⟩
  have hEd : t < v1 → EstInv BB (t * BB + t1) v1 Q ((t * BB + t1) / v1) ((t * BB + t1) % v1) := fun hlt => by
    rw [hQ, hV, ht, ht1, hv1, ← hn]
    exact H.est_div BB_gt1 (by rw [hn]; rw [ht, hv1] at hlt; exact hlt)
  have hEt : ¬ t < v1 → EstInv BB (t * BB + t1) v1 Q (BB - 1) (t1 + v1) := fun hlt => by
    rw [hQ, hV, ht, ht1, hv1, ← hn]
    exact H.est_top BB_gt1 (by rw [hn]; rw [ht, hv1] at hlt; exact hlt)
  have hok : ∀ x R, EstInv BB (t * BB + t1) v1 Q x R → x * v2 ≤ R * BB + t2 → x ≤ Q + 1 := fun x R h1 h2 => by
    rw [hQ, hV] at h1 ⊢
    rw [ht, ht1, hv1, ← hn] at h1
    rw [ht2, hv2, ← hn] at h2
    exact H.est_ok BB_gt1 h1 h2
  have hover : ∀ x R, EstInv BB (t * BB + t1) v1 Q x R → BB ≤ R → x ≤ Q + 1 := fun x R h1 h2 => by
    rw [hQ, hV] at h1 ⊢
    rw [ht, ht1, hv1, ← hn] at h1
    exact H.est_over BB_gt1 h1 h2
  have hstep : ∀ x R, EstInv BB (t * BB + t1) v1 Q x R → R < BB → R * BB + t2 < x * v2 → 0 < x ∧ EstInv BB (t * BB + t1) v1 Q (x - 1) (R + v1) := fun x R h1 h2 h3 => by
    rw [hQ, hV] at h1 ⊢
    rw [ht, ht1, hv1, ← hn] at h1 ⊢
    rw [ht2, hv2, ← hn] at h3
    exact H.est_step BB_gt1 h1 h2 h3
  have HOK := hide hok
  have HOV := hide hover
  have HST := hide hstep
  clear hok hover hstep
  have HEd := hide hEd
  have HEt := hide hEt
  have HQ := hide hQ
  have HVV := hide hV
  clear hsl hse hul hcell H hown ht ht1 ht2 hv1 hv2 hc hV hQ hEd hEt
  go_enter Tryd.func99, Tryd.ntmps99
  go_upto_region 3 with fail
  go_quiet (fail)
  have hOw : (w.drewN nq).ownsRow base 58 1 (.slice (some ⟨g, 0, none⟩) N cap) N (U .u64 (emb us J s0)) := HW.out
  have hOn : w.grownBy (w.drewN nq) (some g) := only_drewN (only_refl w g) nq
  have hgs : g < (w.drewN nq).heap.size := hgl
  have hbs : bv < (w.drewN nq).heap.size := hbv
  replace c0 : (w.drewN nq).cell? ⟨g, J + n, none⟩ = some (.int .u64 (t : Int)) := c0
  replace c1 : (w.drewN nq).cell? ⟨g, J + (n - 1), none⟩ = some (.int .u64 (t1 : Int)) := c1
  replace c2 : (w.drewN nq).cell? ⟨g, J + (n - 2), none⟩ = some (.int .u64 (t2 : Int)) := c2
  replace d1 : (w.drewN nq).cell? ⟨bv, off + (n - 1), none⟩ = some (.int .u64 (v1 : Int)) := d1
  replace d2 : (w.drewN nq).cell? ⟨bv, off + (n - 2), none⟩ = some (.int .u64 (v2 : Int)) := d2
  clear HW
  generalize w.drewN nq = W at *
  go_upto_if 31 with fail
  go_cut [6, 7, 8] (fun a b c wx => ∃ (x r o : Nat), a = .int .u64 (x : Int) ∧ b = .int .u64 (r : Int) ∧ c = .int .u64 (o : Int) ∧ r < BB ∧ o ≤ 1 ∧ Hid (EstInv BB (t * BB + t1) v1 Q x (r + o * BB)) ∧ Below W.heap.size W wx)
  case first =>
    by_cases hlt : t < v1
    · have hdt : decide (t < v1) = true := decide_eq_true hlt
      have HD := hide (fun w => div64_any t t1 v1 w hlt l1 m1)
      have HE := hide (HEd.out hlt)
      obtain ⟨q, hq⟩ : ∃ q, q = (t * BB + t1) / v1 := ⟨_, rfl⟩
      obtain ⟨r, hr⟩ : ∃ r, r = (t * BB + t1) % v1 := ⟨_, rfl⟩
      rw [← hq, ← hr] at HD HE
      have hrl : r < BB := by rw [hr]; exact Nat.lt_trans (Nat.mod_lt _ (by omega)) m1
      clear hq hr
      have c0e : ∀ e : Ext W, e.w.cell? ⟨g, J + n, none⟩ = some (.int .u64 (t : Int)) := fun e => (e.hb.cell (p := ⟨g, J + n, none⟩) hgs).trans c0
      have c1e : ∀ e : Ext W, e.w.cell? ⟨g, J + (n - 1), none⟩ = some (.int .u64 (t1 : Int)) := fun e => (e.hb.cell (p := ⟨g, J + (n - 1), none⟩) hgs).trans c1
      have d1e : ∀ e : Ext W, e.w.cell? ⟨bv, off + (n - 1), none⟩ = some (.int .u64 (v1 : Int)) := fun e => (e.hb.cell (p := ⟨bv, off + (n - 1), none⟩) hbs).trans d1
      have ws1 : IntKind.i64.wrap ((n : Int) - 1) = (n : Int) - 1 := IntWalk.i64_in _ (by omega)
      clear hlt l0 l1 l2 m1 m2
      rw [hdt]
      go_wp2_with fail
      refine wp_region_ext W (Below.refl _ _) (by kernel_rfl) ?_
      repeat (quiet_step ((go_at_call 117; with_reducible exact calls_ext (HD.out _))))
      refine wpQuiet_nil ?_
      rintro _ ⟨e3, rfl⟩
      have hb3 := e3.hb
      generalize e3.w = w3 at *
      go_wp2
      go_meet
      exact ⟨q, r, 0, rfl, rfl, rfl, hrl, by omega, by rw [Nat.zero_mul, Nat.add_zero]; exact HE, hb3⟩
    · have hdt : decide (t < v1) = false := decide_eq_false hlt
      have HE := hide (HEt.out hlt)
      have hs := add64 t1 v1 0 (by omega)
      obtain ⟨r, hr⟩ : ∃ r, r = (t1 + v1 + 0) % BB := ⟨_, rfl⟩
      obtain ⟨o, ho⟩ : ∃ o, o = (t1 + v1 + 0) / BB := ⟨_, rfl⟩
      have hrl : r < BB := by rw [hr]; exact Nat.mod_lt _ BB_pos
      have hol : o ≤ 1 := by rw [ho]; unfold BB at *; omega
      have hsum : t1 + v1 = r + o * BB := by rw [hr, ho]; unfold BB; omega
      rw [← hr, ← ho, Int.natCast_zero] at hs
      rw [hsum] at HE
      clear hlt hr ho hsum l0 l1 l2 m1 m2
      rw [hdt]
      go_wp2_with fail
      go_quiet (fail)
      have hb3 : Below W.heap.size W (W.drewN nq) := below_drewN (Below.refl _ _) _
      go_wp2
      go_meet
      exact ⟨BB - 1, r, o, rfl, rfl, rfl, hrl, hol, HE, hb3⟩
  case rest =>
    obtain ⟨x0, r0, q0, rfl, rfl, rfl, hr0, hq0, hE0, hb0⟩ := hcut
    have hOw1 := own_below hOw hb0
    have hOn1 := only_below hOn hb0
    replace c0 := (hb0.cell (p := ⟨g, J + n, none⟩) hgs).trans c0
    replace c1 := (hb0.cell (p := ⟨g, J + (n - 1), none⟩) hgs).trans c1
    replace c2 := (hb0.cell (p := ⟨g, J + (n - 2), none⟩) hgs).trans c2
    replace d1 := (hb0.cell (p := ⟨bv, off + (n - 1), none⟩) hbs).trans d1
    replace d2 := (hb0.cell (p := ⟨bv, off + (n - 2), none⟩) hbs).trans d2
    clear hOw hOn hgs hbs hb0 HEd HEt l0
    go_upto_block 0 with fail
    go_cut [6] (fun a wx => ∃ x : Nat, a = .int .u64 (x : Int) ∧ x < BB ∧ Hid (Q ≤ x ∧ x ≤ Q + 1) ∧ wx = wc)
    case first =>
      go_wp2_with fail
      go_loop [6, 7, 8] (fun a b c => ∃ (x r o : Nat), a = .int .u64 (x : Int) ∧ b = .int .u64 (r : Int) ∧ c = .int .u64 (o : Int) ∧ r < BB ∧ o ≤ 1 ∧ Hid (EstInv BB (t * BB + t1) v1 Q x (r + o * BB))) (fun a _ _ => (intOf a).toNat)
      case atStart => exact ⟨x0, r0, q0, rfl, rfl, rfl, hr0, hq0, hE0⟩
      case round =>
        obtain ⟨x, r, o, rfl, rfl, rfl, hr, ho, hE⟩ := hrel
        have hxl : x < BB := hE.out.lt
        have hgx : Q ≤ x := hE.out.ge
        have HGX := hide hgx
        have HXL := hide hxl
        rcases Nat.eq_zero_or_pos o with h0 | hpos
        · subst h0
          have hR := hE.out
          rw [Nat.zero_mul, Nat.add_zero] at hR
          have HR := hide hR
          have hM := fun w => mul64_any x v2 hxl m2 w
          obtain ⟨hi, hhi⟩ : ∃ a, a = x * v2 / BB := ⟨_, rfl⟩
          obtain ⟨lo, hlo⟩ : ∃ a, a = x * v2 % BB := ⟨_, rfl⟩
          rw [← hhi, ← hlo] at hM
          have HM := hide hM
          have hsplit : x * v2 = hi * BB + lo := by rw [hhi, hlo, Nat.mul_comm (_ / _)]; exact (Nat.div_add_mod _ _).symm
          have hlol : lo < BB := by rw [hlo]; exact Nat.mod_lt _ BB_pos
          clear hhi hlo hM hE hR hgx
          rcases Nat.lt_trichotomy hi r with hc | hc | hc
          · have hq1 : x ≤ Q + 1 := HOK.out x r HR.out (by rw [hsplit]; exact two_le hc hlol)
            have HQ1 : Hid (Q ≤ x ∧ x ≤ Q + 1) := ⟨HGX.out, hq1⟩
            clear hq1 hsplit hlol
            go_wp2_with (go_at_call 107; refine (HM.out _).mono ?_; rintro e w' ⟨rfl, rfl⟩)
            go_meet
            exact ⟨x, rfl, HXL.out, HQ1, rfl⟩
          · have hc' := hc.symm
            subst hc'
            clear hc
            rcases Nat.lt_or_ge t2 lo with hl2 | hl2
            · have hgt : r * BB + t2 < x * v2 := by rw [hsplit]; omega
              obtain ⟨hx0, hE2⟩ := HST.out x r HR.out hr hgt
              obtain ⟨x', hx'⟩ : ∃ a, a = x - 1 := ⟨_, rfl⟩
              have ws : IntKind.u64.wrap ((x : Int) - 1) = (x' : Int) := by rw [IntWalk.u64_in _ (by unfold BB at hxl; omega)]; omega
              have hs := add64 r v1 0 (by omega)
              obtain ⟨r', hr'⟩ : ∃ a, a = (r + v1 + 0) % BB := ⟨_, rfl⟩
              obtain ⟨o', ho'⟩ : ∃ a, a = (r + v1 + 0) / BB := ⟨_, rfl⟩
              have hrl : r' < BB := by rw [hr']; exact Nat.mod_lt _ BB_pos
              have hol : o' ≤ 1 := by rw [ho']; unfold BB at *; omega
              have hsum : r + v1 = r' + o' * BB := by rw [hr', ho']; unfold BB; omega
              rw [← hr', ← ho', Int.natCast_zero] at hs
              rw [hsum, ← hx'] at hE2
              have HE2 := hide hE2
              have HX' : Hid (x' < x) := by unfold Hid; omega
              clear hr' ho' hsum hE2 hx0 hx' hgt hsplit hlol
              go_wp2_with (go_at_call 107; refine (HM.out _).mono ?_; rintro e w' ⟨rfl, rfl⟩)
              go_round
              case rel => exact ⟨x', r', o', rfl, rfl, rfl, hrl, hol, HE2⟩
              case measure => have := HX'.out; simp [intOf]; omega
            · have hq1 : x ≤ Q + 1 := HOK.out x r HR.out (by rw [hsplit]; omega)
              have HQ1 : Hid (Q ≤ x ∧ x ≤ Q + 1) := ⟨HGX.out, hq1⟩
              clear hq1 hsplit hlol
              go_wp2_with (go_at_call 107; refine (HM.out _).mono ?_; rintro e w' ⟨rfl, rfl⟩)
              go_meet
              exact ⟨x, rfl, HXL.out, HQ1, rfl⟩
          · have hgt : r * BB + t2 < x * v2 := by rw [hsplit]; exact two_lt hc l2
            obtain ⟨hx0, hE2⟩ := HST.out x r HR.out hr hgt
            obtain ⟨x', hx'⟩ : ∃ a, a = x - 1 := ⟨_, rfl⟩
            have ws : IntKind.u64.wrap ((x : Int) - 1) = (x' : Int) := by rw [IntWalk.u64_in _ (by unfold BB at hxl; omega)]; omega
            have hs := add64 r v1 0 (by omega)
            obtain ⟨r', hr'⟩ : ∃ a, a = (r + v1 + 0) % BB := ⟨_, rfl⟩
            obtain ⟨o', ho'⟩ : ∃ a, a = (r + v1 + 0) / BB := ⟨_, rfl⟩
            have hrl : r' < BB := by rw [hr']; exact Nat.mod_lt _ BB_pos
            have hol : o' ≤ 1 := by rw [ho']; unfold BB at *; omega
            have hsum : r + v1 = r' + o' * BB := by rw [hr', ho']; unfold BB; omega
            rw [← hr', ← ho', Int.natCast_zero] at hs
            rw [hsum, ← hx'] at hE2
            have HE2 := hide hE2
            have HX' : Hid (x' < x) := by unfold Hid; omega
            clear hr' ho' hsum hE2 hx0 hx' hgt hsplit hlol
            go_wp2_with (go_at_call 107; refine (HM.out _).mono ?_; rintro e w' ⟨rfl, rfl⟩)
            go_round
            case rel => exact ⟨x', r', o', rfl, rfl, rfl, hrl, hol, HE2⟩
            case measure => have := HX'.out; simp [intOf]; omega
        · have hq1 : x ≤ Q + 1 := HOV.out x _ hE.out (Nat.le_trans (Nat.le_mul_of_pos_left BB hpos) (Nat.le_add_left _ _))
          have HQ1 : Hid (Q ≤ x ∧ x ≤ Q + 1) := ⟨hgx, hq1⟩
          have hno : ¬ o = 0 := by omega
          have hno2 : ((o : Int) == 0) = false := by rw [beq_eq_false_iff_ne]; omega
          clear hq1 hE hgx
          go_wp2
          go_meet
          exact ⟨x, rfl, HXL.out, HQ1, rfl⟩
    case rest =>
      obtain ⟨x, rfl, hxl, HQx, rfl⟩ := hcut
      have HU := hide hOw1
      have hlv : vs.length = n := hn
      have HVl : Hid (Lim BB vs) := HH.out.limv
      have HUl : Hid (Lim BB s0) := HH.out.limu
      clear c0 c1 c2 d1 d2 i1 i2 i3 i4 i5 i7 i8 i9 j1 j2 HOK HOV HST hE0 hr0 hq0 l1 l2 m1 m2 HT HT1 HT2 HV1 HV2
      go_wp2_with fail
      go_loopw [11, 12, 107] (fun c b i wr => ∃ (k cy bo : Nat) (cur : List Nat), k ≤ n ∧ i = .int .i64 (k : Int) ∧ c = .int .u64 (cy : Int) ∧ b = .int .u64 (bo : Int) ∧ Hid (SubInv BB x vs s0 cur cy bo k) ∧
        wr.ownsRow base 58 1 (.slice (some ⟨g, 0, none⟩) N cap) N (U .u64 (emb us J cur)) ∧ w.grownBy wr (some g)) (fun _ _ i _ => n - (intOf i).toNat)
      case atStart => exact ⟨0, 0, 0, s0, Nat.zero_le _, rfl, rfl, rfl, hide (SubInv.start BB_gt1 x vs HUl.out), HU.out, hOn1⟩
      case round =>
        obtain ⟨k, cy, bo, cur, hk, rfl, rfl, rfl, hinv, hown, hgr⟩ := hrel
        have hcl : cur.length = n + 1 := by rw [hinv.out.len]; exact HS.out
        have hul : us.length = N := HUL.out
        have hfit : J + cur.length ≤ us.length := by omega
        rcases Nat.lt_or_ge k n with hlt | hge
        · have hcell : wr.cell? ⟨bv, off + k, none⟩ = some (.int .u64 (nth vs k : Nat)) := (only_cell hgr hbv hne).trans (HBC.out k hlt)
          have hA : wr.cell? ⟨g, J + k, none⟩ = some (.int .u64 (nth cur k : Nat)) := by
            rw [own_cell hown (J + k) (by omega), emb_nth hfit (by omega)]
          have fA := hown.frozenAt (J + k)
          obtain ⟨y, hy⟩ : ∃ y, y = nth vs k := ⟨_, rfl⟩
          obtain ⟨z, hz⟩ : ∃ z, z = nth cur k := ⟨_, rfl⟩
          have hyl : y < BB := by rw [hy]; exact HVl.out.getD BB_pos k
          have hcy : cy < BB := hinv.out.car
          have hbo : bo ≤ 1 := hinv.out.bor
          rw [← hy] at hcell
          rw [← hz] at hA
          have hst := hinv.out.step BB_gt1 hxl HVl.out (by rw [HS.out]; omega)
          have f1 : cur.getD k 0 = z := hz.symm
          have f2 : vs.getD k 0 = y := hy.symm
          rw [f1, f2] at hst
          have hlt2 := muladd_lt BB_gt1 hxl hyl hcy (show 0 < BB from BB_pos)
          rw [Nat.zero_add] at hlt2
          obtain ⟨h1, hh1⟩ : ∃ h1, h1 = x * y / BB := ⟨_, rfl⟩
          obtain ⟨l1, hl1⟩ : ∃ l1, l1 = x * y % BB := ⟨_, rfl⟩
          obtain ⟨l2, hl2⟩ : ∃ l2, l2 = (l1 + cy + 0) % BB := ⟨_, rfl⟩
          obtain ⟨c1, hc1⟩ : ∃ c1, c1 = (l1 + cy + 0) / BB := ⟨_, rfl⟩
          have e1 : h1 + c1 = (x * y + cy) / BB := by rw [hh1, hc1, hl1, Nat.add_zero, muladd_div _ _ BB_pos]
          have e2 : l2 = (x * y + cy) % BB := by rw [hl2, hl1, Nat.add_zero, muladd_mod]
          have e5 : h1 + c1 < BB := by rw [e1]; exact (Nat.div_lt_iff_lt_mul BB_pos).2 hlt2
          rw [← e1, ← e2] at hst
          obtain ⟨d, hd⟩ : ∃ d, d = (z + BB - l2 - bo) % BB := ⟨_, rfl⟩
          obtain ⟨b', hb'⟩ : ∃ b' : Nat, b' = if z < l2 + bo then 1 else 0 := ⟨_, rfl⟩
          have hM := fun w => mul64_any x y hxl hyl w
          rw [← hh1, ← hl1] at hM
          have hs1 := add64 l1 cy 0 (by omega)
          rw [← hl2, ← hc1, Int.natCast_zero] at hs1
          have hs2 := sub64 z l2 bo hbo
          rw [← hd, ← hb'] at hs2 hst
          have HM := hide hM
          have HSt := hide hst
          have HE := hide (emb_set hfit (k := k) (by omega) d)
          unfold BB at e5
          clear hM hst f1 f2 e1 e2 hlt2 hc1 hl2 hl1 hh1 hz hyl hy hcy hbo hd hb'
          go_wp2_with (go_at_call 107; refine (HM.out _).mono ?_; rintro e w' ⟨rfl, rfl⟩)
          go_roundw
          case rel => exact ⟨k + 1, h1 + c1, b', _, by omega, by go_num, by go_num, rfl, HSt, by rw [← HE.out]; exact own_set hown (J + k) d, only_set hgr _ _⟩
          case measure => simp [intOf]; omega
        · obtain rfl : k = n := by omega
          have hA : wr.cell? ⟨g, J + k, none⟩ = some (.int .u64 (nth cur k : Nat)) := by
            rw [own_cell hown (J + k) (by omega), emb_nth hfit (by omega)]
          have fA := hown.frozenAt (J + k)
          have hbo : bo ≤ 1 := hinv.out.bor
          have hi2 := hinv.out
          rw [← hlv] at hi2
          obtain ⟨hlm, hsm⟩ := hi2.last BB_gt1 (by rw [HS.out, hlv])
          rw [hlv] at hlm hsm
          obtain ⟨z, hz⟩ : ∃ z, z = nth cur k := ⟨_, rfl⟩
          have f1 : cur.getD k 0 = z := hz.symm
          rw [f1] at hlm hsm
          rw [← hz] at hA
          obtain ⟨d, hd⟩ : ∃ d, d = (z + BB - cy - bo) % BB := ⟨_, rfl⟩
          rw [← hd] at hlm hsm
          have hs2 := sub64 z cy bo hbo
          rw [← hd] at hs2
          have HE := hide (emb_set hfit (k := k) (by omega) d)
          have hV0 : 0 < V := by rw [HVV.out]; exact Nat.lt_of_lt_of_le (Nat.pow_pos BB_pos) HH.out.V_pos
          have hln : (cur.set k d).length = k + 1 := by rw [List.length_set]; exact hcl
          have HLM := hide hlm
          rcases Nat.lt_or_ge z (cy + bo) with hbor | hnb
          · rw [if_pos hbor] at hsm hs2
            rw [Nat.mul_one] at hsm
            have HSM := hide hsm
            have HBO := hide hbor
            rw [show ((1 : Nat) : Int) = 1 from rfl] at hs2
            clear hsm hlm hi2 hinv hd f1 hz hbor
            have HW1 := hide (own_set hown (J + k) d)
            have HG1 := hide (only_set hgr (J + k) (.int .u64 (d : Int)))
            go_wp2_with fail
            generalize wr.setCell ⟨g, J + k, none⟩ (.int .u64 (d : Int)) = W3 at *
            rw [HE.out] at HW1
            obtain ⟨c1, hc1⟩ : ∃ c1, c1 = cur.set k d := ⟨_, rfl⟩
            rw [← hc1] at HW1 HLM HSM hln
            clear hc1 HE hown hgr hA fA hs2 hfit hcl HBO hbo
            go_loopw [11, 159] (fun c i wr => ∃ (j cy : Nat) (cur : List Nat), j ≤ k ∧ i = .int .i64 (j : Int) ∧ c = .int .u64 (cy : Int) ∧ Hid (PlusInv BB c1 vs cur cy j) ∧
              wr.ownsRow base 58 1 (.slice (some ⟨g, 0, none⟩) N cap) N (U .u64 (emb us J cur)) ∧ w.grownBy wr (some g)) (fun _ i _ => k - (intOf i).toNat)
            case atStart => exact ⟨0, 0, c1, Nat.zero_le _, rfl, rfl, hide (PlusInv.start vs HLM.out), HW1.out, HG1.out⟩
            case round =>
              obtain ⟨j, cy2, c2, hj, rfl, rfl, hinv, hown, hgr⟩ := hrel
              have hcl : c2.length = k + 1 := by rw [hinv.out.len]; exact hln
              have hfit : J + c2.length ≤ us.length := by omega
              have hcar : cy2 ≤ 1 := hinv.out.car
              rcases Nat.lt_or_ge j k with hlt | hge
              · have hcell : wr.cell? ⟨bv, off + j, none⟩ = some (.int .u64 (nth vs j : Nat)) := (only_cell hgr hbv hne).trans (HBC.out j hlt)
                have hA : wr.cell? ⟨g, J + j, none⟩ = some (.int .u64 (nth c2 j : Nat)) := by
                  rw [own_cell hown (J + j) (by omega), emb_nth hfit (by omega)]
                have fA := hown.frozenAt (J + j)
                have hst := hinv.out.step BB_gt1 HVl.out (show j < c1.length by omega)
                obtain ⟨y, hy⟩ : ∃ y, y = nth vs j := ⟨_, rfl⟩
                obtain ⟨z2, hz2⟩ : ∃ z, z = nth c2 j := ⟨_, rfl⟩
                have f1 : c2.getD j 0 = z2 := hz2.symm
                have f2 : vs.getD j 0 = y := hy.symm
                rw [f1, f2] at hst
                rw [← hy] at hcell
                rw [← hz2] at hA
                obtain ⟨d2, hd2⟩ : ∃ d, d = (z2 + y + cy2) % BB := ⟨_, rfl⟩
                obtain ⟨e2, he2⟩ : ∃ d, d = (z2 + y + cy2) / BB := ⟨_, rfl⟩
                have hs := add64 z2 y cy2 hcar
                rw [← hd2, ← he2] at hs hst
                have HSt := hide hst
                have HE := hide (emb_set hfit (k := j) (by omega) d2)
                clear hst f1 f2 hd2 he2 hz2 hy hcar hcl
                go_wp2
                go_roundw
                case rel => exact ⟨j + 1, e2, _, by omega, by go_num, rfl, HSt, by rw [← HE.out]; exact own_set hown (J + j) d2, only_set hgr _ _⟩
                case measure => simp [intOf]; omega
              · obtain rfl : j = k := by omega
                have hA : wr.cell? ⟨g, J + j, none⟩ = some (.int .u64 (nth c2 j : Nat)) := by
                  rw [own_cell hown (J + j) (by omega), emb_nth hfit (by omega)]
                have fA := hown.frozenAt (J + j)
                have hi2 := hinv.out
                rw [← hlv] at hi2
                obtain ⟨q, hlm2, hsm2⟩ := back_last BB_gt1 hi2 (by rw [hln, hlv])
                rw [hlv] at hlm2 hsm2
                obtain ⟨z2, hz2⟩ : ∃ z, z = nth c2 j := ⟨_, rfl⟩
                have f1 : c2.getD j 0 = z2 := hz2.symm
                have hzl : z2 < BB := by rw [hz2]; exact hinv.out.lim.getD BB_pos j
                rw [f1] at hlm2 hsm2
                rw [← hz2] at hA
                obtain ⟨d2, hd2⟩ : ∃ d, d = (z2 + cy2) % BB := ⟨_, rfl⟩
                have hwr : IntKind.u64.wrap ((z2 : Int) + (cy2 : Int)) = (d2 : Int) := by
                  rw [hd2, IntKind.wrap_u64]; unfold BB; omega
                rw [← hd2] at hlm2 hsm2
                have HE := hide (emb_set hfit (k := j) (by omega) d2)
                have hl3 : (c2.set j d2).length = j + 1 := by rw [List.length_set]; exact hcl
                have hb1 := val_lt HLM.out
                have hb2 := val_lt hlm2
                have hb3 := val_lt HVl.out
                rw [hln] at hb1
                rw [hl3] at hb2
                rw [hlv, ← HVV.out] at hb3
                have hsm := HSM.out
                rw [← HVV.out] at hsm hsm2
                have h2V : 2 * V ≤ BB ^ (j + 1) := by
                  rw [Nat.pow_succ, Nat.mul_comm (BB ^ j)]
                  exact Nat.mul_le_mul BB_gt1 (Nat.le_of_lt hb3)
                have hfin := digit_borrow (by rw [← HQ.out]; exact HQx.out.2) hsm hb1 hV0 h2V hb2 hsm2
                rw [← HQ.out] at hfin
                have HF2 := hide hfin.2
                have hx1 := hfin.1
                have hwx : IntKind.u64.wrap ((x : Int) - 1) = (Q : Int) := by
                  rw [IntKind.wrap_u64]; unfold BB at hxl; omega
                have HLM2 := hide hlm2
                clear hsm hsm2 hlm2 hb1 hb2 hb3 h2V hfin hi2 hinv hd2 f1 hz2 hzl hx1 hcar hcl
                go_wp2
                go_ret
                refine ⟨c2.set j d2, ?_, hl3, HLM2.out, by rw [HF2.out, HVV.out], by rw [← HE.out]; exact own_set hown (J + j) d2, only_set hgr _ _⟩
                rw [← HVV.out, ← HQ.out]
                rfl
          · rw [if_neg (by omega)] at hsm hs2
            rw [Nat.mul_zero, Nat.add_zero, ← HVV.out] at hsm
            have hfin := digit_no_borrow (by rw [← HQ.out]; exact HQx.out.1) hsm hV0
            rw [← HQ.out] at hfin
            have HF1 := hide hfin.1
            have HF2 := hide hfin.2
            rw [Int.natCast_zero] at hs2
            clear hsm hlm hi2 hinv hd f1 hz hfin
            go_wp2
            go_ret
            refine ⟨cur.set k d, by rw [← HVV.out, ← HQ.out, ← HF1.out]; rfl, hln, HLM.out, by rw [HF2.out, HVV.out], by rw [← HE.out]; exact own_set hown (J + k) d, only_set hgr _ _⟩
end Go.Proofs.YteodljieiloebaaDoor
