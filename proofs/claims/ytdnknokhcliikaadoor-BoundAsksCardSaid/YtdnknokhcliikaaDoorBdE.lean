/- sluicewaylaw22: BoundHalves. -/
import Derived.Test.YtdnknokhcliikaaDoorBdC
import Derived.Deep.DeepCutAuto
namespace Go.Proofs.YtdnknokhcliikaaDoor
open Go.RowKit Pl

theorem heap_set {w : World} {b o : Nat} {c : Array Value} {t : TypeId} {v : Value} (h : w.heap[b]? = some (.cells c t (0, 0))) : (w.setCell ⟨b, o, none⟩ v).heap[b]? = some (.cells (c.set! o v) t (0, 0)) := by
  simp [World.setCell, Array.getElem?_modify, h]
theorem heap_old {w : World} {b : Nat} {ob : Obj} (o : Obj) (h : w.heap[b]? = some ob) : (w.alloc o).heap[b]? = some ob := by
  have hlt : b < w.heap.size := by
    rcases Nat.lt_or_ge b w.heap.size with h2 | h2
    · exact h2
    · rw [Array.getElem?_eq_none h2] at h; cases h
  show (w.heap.push o)[b]? = some ob
  rw [Array.getElem?_push_lt hlt, ← h, Array.getElem?_eq_getElem hlt]

theorem RdP.below {w w' : World} {v : Value} {t : Int} {e h l : Dy} (hp : RdP w v t e h l) (hb : Below w.heap.size w w') : RdP w' v t e h l := by
  obtain ⟨A, n, c, B, m, d, C, o, f, hv, h1, h2, h3⟩ := hp
  exact ⟨A, n, c, B, m, d, C, o, f, hv, h1.below hb, h2.below hb, h3.below hb⟩

set_option maxRecDepth 100000 in
set_option maxHeartbeats 4000000 in
theorem halves_any (r s : Int) (w : World) (hT : TabAt w) :
    Calls Tryd.prog 5 #[.int .i64 r, .int .i64 s] w fun x w' => x = .returned (.bool true) ∧ Below w.heap.size w w' := by
  go_enter Tryd.func5, Tryd.ntmps5
  go_upto_region 2 with fail
  obtain ⟨t, ht⟩ : ∃ t, t = wrap64 (1 + wrap64 ((IntKind.u64.wrap r).tmod 20)) := ⟨_, rfl⟩
  obtain ⟨k', hk'⟩ : ∃ k, k = wrap64 ((IntKind.u64.wrap s).tmod 41) := ⟨_, rfl⟩
  rw [← ht, ← hk']
  have u1 : IntKind.u64.wrap r = r % 18446744073709551616 := rfl
  have u2 : IntKind.u64.wrap s = s % 18446744073709551616 := rfl
  have ht2 : 1 ≤ t ∧ t ≤ 20 := by
    rw [ht, u1, Int.tmod_eq_emod_of_nonneg (by omega), IntWalk.wrap64_in ((r % 18446744073709551616) % 20) (by omega), IntWalk.wrap64_in _ (by omega)]
    omega
  have hk2 : 0 ≤ k' ∧ k' ≤ 40 := by
    rw [hk', u2, Int.tmod_eq_emod_of_nonneg (by omega), IntWalk.wrap64_in _ (by omega)]
    omega
  obtain ⟨k, rfl⟩ : ∃ k : Nat, k' = (k : Int) := ⟨k'.toNat, by omega⟩
  have hk3 : k ≤ 1000 := by omega
  clear ht hk' u1 u2
  go_upto_region 3 with fail
  obtain ⟨W, hW⟩ : ∃ W, W = ((w.alloc (.cells #[.int .u64 1] 37)).alloc (.cells #[.bool false, .slice (some ⟨w.heap.size, 0, none⟩) 1 1, .int .i64 0] 24)) := ⟨_, rfl⟩
  have hb0 : Below w.heap.size w W := by rw [hW]; go_grown
  have hz0 : w.heap.size < W.heap.size := by rw [hW]; simp <;> omega
  have hz1 : w.heap.size + 1 < W.heap.size := by rw [hW]; simp <;> omega
  have hc0 : W.cell? ⟨w.heap.size, 0, none⟩ = some (.int .u64 1) := by rw [hW]; simp [go_sem]
  have c10 : W.cell? ⟨w.heap.size + 1, 0, none⟩ = some (.bool false) := by rw [hW]; simp [go_sem]
  have c11 : W.cell? ⟨w.heap.size + 1, 1, none⟩ = some (.slice (some ⟨w.heap.size, 0, none⟩) 1 1) := by rw [hW]; simp [go_sem]
  have c12 : W.cell? ⟨w.heap.size + 1, 2, none⟩ = some (.int .i64 0) := by rw [hW]; simp [go_sem]
  rw [← hW]
  clear hW
  go_upto_region 4 with (refine wpList_store_plan rfl rfl rfl (by simp) rfl rfl rfl rfl ?_)
  obtain ⟨W3, hW3⟩ : ∃ W3, W3 = ((W.alloc (.cells #[.int .u64 1] 37)).alloc (.cells #[.int .i64 0, .int .i64 t, .int .i64 0, .int .i64 0, .bool false, .slice (some ⟨w.heap.size, 0, none⟩) 1 1, .int .i64 0, .bool false, .slice (some ⟨w.heap.size, 0, none⟩) 1 1, .int .i64 0, .bool false, .slice (some ⟨W.heap.size, 0, none⟩) 1 1, .int .i64 (-(k : Int)), .bool false, .slice none 0 0, .int .i64 0, .slice none 0 0, .slice none 0 0, .slice none 0 0, .slice none 0 0, .slice none 0 0, .slice none 0 0] 31)) := ⟨_, rfl⟩
  have hb3 : Below W.heap.size W W3 := by rw [hW3]; go_grown
  have hz3 : W.heap.size < W3.heap.size := by rw [hW3]; simp <;> omega
  have hz31 : W.heap.size + 1 < W3.heap.size := by rw [hW3]; simp <;> omega
  have h3 : W3.heap[W.heap.size + 1]? = some (.cells #[.int .i64 0, .int .i64 t, .int .i64 0, .int .i64 0, .bool false, .slice (some ⟨w.heap.size, 0, none⟩) 1 1, .int .i64 0, .bool false, .slice (some ⟨w.heap.size, 0, none⟩) 1 1, .int .i64 0, .bool false, .slice (some ⟨W.heap.size, 0, none⟩) 1 1, .int .i64 (-(k : Int)), .bool false, .slice none 0 0, .int .i64 0, .slice none 0 0, .slice none 0 0, .slice none 0 0, .slice none 0 0, .slice none 0 0, .slice none 0 0] 31 (0, 0)) := by
    have hs : (W.alloc (.cells #[.int .u64 1] 37)).heap.size = W.heap.size + 1 := by simp
    rw [hW3, ← hs]
    exact heap_alloc_last _ _
  have hc3 : W3.cell? ⟨W.heap.size, 0, none⟩ = some (.int .u64 1) := by rw [hW3]; simp [go_sem]
  have hc03 := (hb3.cell (p := ⟨w.heap.size, 0, none⟩) hz0).trans hc0
  rw [← hW3]
  clear hW3 c10 c11 c12
  go_upto_region 5 with (first
    | (refine wpList_load_planG rfl rfl h3 rfl (by first | rfl | go_simp) ?_)
    | (refine wpList_store_plan rfl rfl rfl (by simp) rfl rfl rfl rfl ?_))
  obtain ⟨W4, hW4⟩ : ∃ W4, W4 = W3.alloc (.cells #[.int .i64 0, .int .i64 t, .int .i64 0, .int .i64 0, .bool false, .slice (some ⟨w.heap.size, 0, none⟩) 1 1, .int .i64 0, .bool false, .slice (some ⟨w.heap.size, 0, none⟩) 1 1, .int .i64 0, .bool false, .slice (some ⟨W.heap.size, 0, none⟩) 1 1, .int .i64 (-(k : Int)), .bool false, .slice none 0 0, .int .i64 0, .slice none 0 0, .slice none 0 0, .slice none 0 0, .slice none 0 0, .slice none 0 0, .slice none 0 0] 31) := ⟨_, rfl⟩
  have hb4 : Below W3.heap.size W3 W4 := by rw [hW4]; go_grown
  have hz4 : W3.heap.size < W4.heap.size := by rw [hW4]; simp
  have h4 : W4.heap[W3.heap.size]? = some (.cells #[.int .i64 0, .int .i64 t, .int .i64 0, .int .i64 0, .bool false, .slice (some ⟨w.heap.size, 0, none⟩) 1 1, .int .i64 0, .bool false, .slice (some ⟨w.heap.size, 0, none⟩) 1 1, .int .i64 0, .bool false, .slice (some ⟨W.heap.size, 0, none⟩) 1 1, .int .i64 (-(k : Int)), .bool false, .slice none 0 0, .int .i64 0, .slice none 0 0, .slice none 0 0, .slice none 0 0, .slice none 0 0, .slice none 0 0, .slice none 0 0] 31 (0, 0)) := by rw [hW4]; exact heap_alloc_last _ _
  have h34 : W4.heap[W.heap.size + 1]? = some (.cells #[.int .i64 0, .int .i64 t, .int .i64 0, .int .i64 0, .bool false, .slice (some ⟨w.heap.size, 0, none⟩) 1 1, .int .i64 0, .bool false, .slice (some ⟨w.heap.size, 0, none⟩) 1 1, .int .i64 0, .bool false, .slice (some ⟨W.heap.size, 0, none⟩) 1 1, .int .i64 (-(k : Int)), .bool false, .slice none 0 0, .int .i64 0, .slice none 0 0, .slice none 0 0, .slice none 0 0, .slice none 0 0, .slice none 0 0, .slice none 0 0] 31 (0, 0)) := by rw [hW4]; exact heap_old _ h3
  have c40 : W4.cell? ⟨W3.heap.size, 10, none⟩ = some (.bool false) := cell_of_row _ _ _ _ _ _ h4
  have c41 : W4.cell? ⟨W3.heap.size, 11, none⟩ = some (.slice (some ⟨W.heap.size, 0, none⟩) 1 1) := cell_of_row _ _ _ _ _ _ h4
  have c42 : W4.cell? ⟨W3.heap.size, 12, none⟩ = some (.int .i64 (-(k : Int))) := cell_of_row _ _ _ _ _ _ h4
  have f4 : ∀ o, W4.frozen? ⟨W3.heap.size, o, none⟩ = false := fun o => by rw [hW4]; simp [go_sem]
  have f40 := f4 10
  have f41 := f4 11
  have f42 := f4 12
  rw [← hW4]
  clear hW4 h3 f4
  go_upto_region 6 with fail
  obtain ⟨V, hV⟩ : ∃ V, V = (((W4.setCell ⟨W3.heap.size, 10, none⟩ (.bool false)).setCell ⟨W3.heap.size, 11, none⟩ (.slice (some ⟨W4.heap.size, 0, none⟩) 1 1)).setCell ⟨W3.heap.size, 12, none⟩ (.int .i64 (-(k : Int) - 1))) := ⟨_, rfl⟩
  have hVs : V.heap.size = W4.heap.size := by rw [hV]; simp [World.setCell]
  have hbV : Below W3.heap.size W4 V := by
    rw [hV]
    exact (((Below.refl _ _).setCell (p := ⟨W3.heap.size, 10, none⟩) (Nat.le_refl _) _).setCell (p := ⟨W3.heap.size, 11, none⟩) (Nat.le_refl _) _).setCell (p := ⟨W3.heap.size, 12, none⟩) (Nat.le_refl _) _
  have hVq : V.heap[W3.heap.size]? = some (.cells #[.int .i64 0, .int .i64 t, .int .i64 0, .int .i64 0, .bool false, .slice (some ⟨w.heap.size, 0, none⟩) 1 1, .int .i64 0, .bool false, .slice (some ⟨w.heap.size, 0, none⟩) 1 1, .int .i64 0, .bool false, .slice (some ⟨V.heap.size, 0, none⟩) 1 1, .int .i64 (-(k : Int) - 1), .bool false, .slice none 0 0, .int .i64 0, .slice none 0 0, .slice none 0 0, .slice none 0 0, .slice none 0 0, .slice none 0 0, .slice none 0 0] 31 (0, 0)) := by
    rw [hVs, hV]
    exact heap_set (heap_set (heap_set h4))
  rw [← hV, ← hVs]
  clear hV h4
  have hb5 : Below V.heap.size V (V.alloc (.cells #[.int .u64 3] 37)) := by go_grown
  have h5q := heap_old (.cells #[.int .u64 3] 37) hVq
  have h5p : (V.alloc (.cells #[.int .u64 3] 37)).heap[W.heap.size + 1]? = some (.cells #[.int .i64 0, .int .i64 t, .int .i64 0, .int .i64 0, .bool false, .slice (some ⟨w.heap.size, 0, none⟩) 1 1, .int .i64 0, .bool false, .slice (some ⟨w.heap.size, 0, none⟩) 1 1, .int .i64 0, .bool false, .slice (some ⟨W.heap.size, 0, none⟩) 1 1, .int .i64 (-(k : Int)), .bool false, .slice none 0 0, .int .i64 0, .slice none 0 0, .slice none 0 0, .slice none 0 0, .slice none 0 0, .slice none 0 0, .slice none 0 0] 31 (0, 0)) := by
    rw [hb5.block _ (by omega), hbV.block _ (by omega)]
    exact h34
  have hc5 : (V.alloc (.cells #[.int .u64 3] 37)).cell? ⟨V.heap.size, 0, none⟩ = some (.int .u64 3) := by simp [go_sem]
  have hz5 : V.heap.size < (V.alloc (.cells #[.int .u64 3] 37)).heap.size := by simp
  generalize (V.alloc (.cells #[.int .u64 3] 37)) = W5 at *
  have hbw : Below w.heap.size w W5 := ((((hb0.trans (hb3.mono (by omega))).trans (hb4.mono (by omega))).trans (hbV.mono (by omega))).trans (hb5.mono (by omega)))
  have hbW : Below W.heap.size W W5 := (((hb3.trans (hb4.mono (by omega))).trans (hbV.mono (by omega))).trans (hb5.mono (by omega)))
  have hbW3 : Below W3.heap.size W3 W5 := ((hb4.trans (hbV.mono (by omega))).trans (hb5.mono (by omega)))
  have hT5 := hT.below hbw
  have ho : RdD W5 (.agg #[.bool false, .slice (some ⟨w.heap.size, 0, none⟩) 1 1, .int .i64 0]) (onD 1 0) := one_rd (by omega) BB_gt1 ((hbW.cell (p := ⟨w.heap.size, 0, none⟩) hz0).trans hc0) (by omega) (by omega)
  have hlp : RdD W5 (.agg #[.bool false, .slice (some ⟨W.heap.size, 0, none⟩) 1 1, .int .i64 (-(k : Int))]) (onD 1 (-(k : Int))) := one_rd (by omega) BB_gt1 ((hbW3.cell (p := ⟨W.heap.size, 0, none⟩) hz3).trans hc3) (by omega) (by omega)
  have hlq : RdD W5 (.agg #[.bool false, .slice (some ⟨V.heap.size, 0, none⟩) 1 1, .int .i64 (-(k : Int) - 1)]) (onD 3 (-(k : Int) - 1)) := one_rd hz5 (by unfold BB; omega) hc5 (by omega) (by omega)
  have hpp : RdP W5 (.agg #[.int .i64 0, .int .i64 t, .int .i64 0, .int .i64 0, .bool false, .slice (some ⟨w.heap.size, 0, none⟩) 1 1, .int .i64 0, .bool false, .slice (some ⟨w.heap.size, 0, none⟩) 1 1, .int .i64 0, .bool false, .slice (some ⟨W.heap.size, 0, none⟩) 1 1, .int .i64 (-(k : Int)), .bool false, .slice none 0 0, .int .i64 0, .slice none 0 0, .slice none 0 0, .slice none 0 0, .slice none 0 0, .slice none 0 0, .slice none 0 0]) t (onD 1 0) (onD 1 0) (onD 1 (-(k : Int))) := ⟨_, _, _, _, _, _, _, _, _, rfl, ho, ho, hlp⟩
  have hpq : RdP W5 (.agg #[.int .i64 0, .int .i64 t, .int .i64 0, .int .i64 0, .bool false, .slice (some ⟨w.heap.size, 0, none⟩) 1 1, .int .i64 0, .bool false, .slice (some ⟨w.heap.size, 0, none⟩) 1 1, .int .i64 0, .bool false, .slice (some ⟨V.heap.size, 0, none⟩) 1 1, .int .i64 (-(k : Int) - 1), .bool false, .slice none 0 0, .int .i64 0, .slice none 0 0, .slice none 0 0, .slice none 0 0, .slice none 0 0, .slice none 0 0, .slice none 0 0]) t (onD 1 0) (onD 1 0) (onD 3 (-(k : Int) - 1)) := ⟨_, _, _, _, _, _, _, _, _, rfl, ho, ho, hlq⟩
  have HP := hide hpp
  have HQ := hide hpq
  have HB := hide hbw
  have HT := hide hT5
  have HS := hide (show W.heap.size + 1 < W5.heap.size ∧ W3.heap.size < W5.heap.size by omega)
  clear hpp hpq hbw hT5 hbW hbW3 ho hlp hlq hc5 hz5 hz0 hz1 hc0 hz3 hc3 hc03 hz4 h34 c40 c41 c42 f40 f41 f42 hVs hbV hVq hb5 hb0 hb3 hb4 hz31
  have m1 : wrap64 ((k : Int) + 1) = (k : Int) + 1 := IntWalk.wrap64_in _ (by omega)
  have m4 : t * (k : Int) ≤ 20 * 40 := Int.mul_le_mul (by omega) (by omega) (by omega) (by omega)
  have m5 : 0 ≤ t * (k : Int) := Int.mul_nonneg (by omega) (by omega)
  have m6 : t * ((k : Int) + 1) = t * (k : Int) + t := by rw [Int.mul_add, Int.mul_one]
  have m2 : wrap64 (t * ((k : Int) + 1)) = t * ((k : Int) + 1) := IntWalk.wrap64_in _ (by omega)
  have m3 : wrap64 (t * (k : Int)) = t * (k : Int) := IntWalk.wrap64_in _ (by omega)
  have M := hide m6
  clear m4 m5 m6
  go_cut [10] (fun s10 wx => s10 = .int .i64 (t * (k : Int)) ∧ wx = W5)
  case first =>
    go_wp2_with fail
    go_meet
    exact ⟨by rw [m3], rfl⟩
  obtain ⟨rfl, rfl⟩ := hcut
  go_wp2_with fail
  refine (told_any _ HT.out).mono ?_
  rintro e w6 ⟨rfl, hb6⟩
  have h6p := (hb6.block _ HS.out.1).trans h5p
  have h6q := (hb6.block _ HS.out.2).trans h5q
  have HB6 := hide hb6
  clear h5p h5q hb6
  go_wp2_with (refine wpList_load_planG rfl rfl h6p rfl (by first | rfl | go_simp) ?_)
  refine (attempts_any _ _ _ _ _ _ (HP.out.below HB6.out) (HT.out.below HB6.out)).mono ?_
  rintro e w7 ⟨r7, rfl, hr7, hb7⟩
  have e7 : r7 = t * ((k : Int) + 1) := att_pow ht2.1 ht2.2 hk3 hr7
  subst e7
  have h7q := (hb7.block _ (Nat.lt_of_lt_of_le HS.out.2 HB6.out.size)).trans h6q
  have HB7 := hide (below_then HB6.out hb7)
  clear h6p h6q hb7 hr7
  go_wp2_with (refine wpList_load_planG rfl rfl h7q rfl (by first | rfl | go_simp) ?_)
  refine (attempts_any _ _ _ _ _ _ (HQ.out.below HB7.out) (HT.out.below HB7.out)).mono ?_
  rintro e w8 ⟨r8, rfl, hr8, hb8⟩
  have e8 : r8 = t * (k : Int) := att_pow3 ht2.1 ht2.2 hk3 hr8
  subst e8
  clear h7q
  go_wp2_with fail
  go_ret
  exact ⟨rfl, below_then HB.out (below_then HB7.out hb8)⟩
end Go.Proofs.YtdnknokhcliikaaDoor
