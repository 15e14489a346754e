/- 'append(s, make([]uint64, m)...)': zeros behind a row of the call's own. -/
import Derived.Test.YteodljieiloebaaDoorNatDx
namespace Go.Proofs.YteodljieiloebaaDoor
open Go.RowKit Pl

theorem zeroCells_u64 (m : Nat) : Builtin.zeroCells #[Value.int .u64 0] m = (U .u64 (List.replicate m 0)).toArray := by
  apply Array.ext
  · simp [Builtin.zeroCells, U]
  · intro i h1 h2
    simp [Builtin.zeroCells, U, Nat.mod_one]

theorem U_oneZ {xs : List Nat} : ∀ u ∈ U .u64 xs, u.oneCell' = true := by
  intro u hu
  unfold U at hu
  obtain ⟨x, _, rfl⟩ := List.mem_map.1 hu
  rfl
theorem run_append_zeros (w : World) (base : Nat) (ty : TypeId) (v : Value) (n : Nat) (xs : List Value) (hown : w.ownsRow base 58 1 v n xs) (m : Nat) (h63 : n + m ≤ maxLen) (hbytes : (n + m) * 8 ≤ 140737488355328) (hbase : base ≤ w.heap.size) :
    ∃ v' w', (Builtin.append_ #[24, 3] ty #[v, .int .i64 (m : Int)]).run Tryd.prog w = .ok v' w' ∧ w'.ownsRow base 58 1 v' (n + m) (xs ++ U .u64 (List.replicate m 0)) ∧ w.grownBy w' v.ownBlock := by
  obtain ⟨i, hi, hz, hsz, hby⟩ := info_parts info_u64
  have hsmall : n + m ≤ 9223372036854775807 := by simp only [maxLen] at h63; omega
  have hwr : IntKind.i64.wrap (m : Int) = (m : Int) := IntWalk.i64_in _ (by omega)
  have hai0 : ∀ w, (asIntOf (Value.int .i64 0)).run Tryd.prog w = .ok (.i64, 0) w := fun _ => rfl
  have hwr0 : IntKind.i64.wrap 0 = 0 := IntWalk.i64_in _ (by omega)
  have hm0 : ¬ ((m : Int) < 0) := by omega
  have hai : ∀ w, (asIntOf (Value.int .i64 (m : Int))).run Tryd.prog w = .ok (.i64, (m : Int)) w := fun _ => rfl
  have hzc : (Value.int .u64 0).cells = #[.int .u64 0] := rfl
  have h63m : ¬ (9223372036854775807 < (m : Int)) := by omega
  have h63n : ¬ (9223372036854775807 < (n : Int) + (m : Int)) := by omega
  have hm8 : ¬ (281474976710656 < (m : Int) * 8) := by omega
  have hlen : (xs ++ U .u64 (List.replicate m 0)).length = (n + m) * 1 := by rw [List.length_append, hown.1, U_len]; simp
  have grown : ∀ (old : Nat), old < n + m → ∀ (row : Option Nat),
      (w.drew.alloc (.cells (xs.toArray ++ (U .u64 (List.replicate m 0)).toArray ++ Builtin.zeroCells #[.int .u64 0] (grownCap w (n + m) old 58 - (n + m))) 58)).ownsRow base 58 1
        (.slice (some ⟨w.heap.size, 0, none⟩) (n + m) (grownCap w (n + m) old 58)) (n + m) (xs ++ U .u64 (List.replicate m 0)) ∧
      w.grownBy (w.drew.alloc (.cells (xs.toArray ++ (U .u64 (List.replicate m 0)).toArray ++ Builtin.zeroCells #[.int .u64 0] (grownCap w (n + m) old 58 - (n + m))) 58)) row := by
    intro old ho row
    have hge := grownCap_ge w (n + m) old 58
    have hcm : grownCap w (n + m) old 58 ≤ maxLen := grownCap_le_maxLen w (n + m) old 58 h63
    refine ⟨⟨hlen, .inr ⟨w.heap.size, _, _, rfl, hbase, heap_alloc_new w.drew _, hge, hcm, ?_, ?_⟩⟩, ⟨rfl, rfl, rfl, by simp, fun k hk _ => Below.heap_alloc w.drew _ k hk⟩⟩
    · have h1 := hown.1
      simp only [Array.size_append, List.size_toArray, size_zeroCells, h1, U_len, List.length_replicate]
      simp
      omega
    · simp only [Array.toList_append, List.append_assoc]
      rw [← List.append_assoc, ← hlen]
      exact List.take_left
  rcases hown.2 with ⟨rfl, rfl⟩ | ⟨g, cap, cur, rfl, hbg, hg, hnc, hcm, hcs, htake⟩
  · have hx : xs = [] := List.eq_nil_of_length_eq_zero (by simpa using hown.1)
    subst hx
    by_cases hm : m = 0
    · subst hm
      refine ⟨.slice none 0 0, w, ?_, World.ownsRow_nil w base _ _, ⟨rfl, rfl, rfl, Nat.le_refl _, fun _ _ _ => rfl⟩⟩
      simp [hai0, hwr0, Builtin.append_, run_underlying Tryd.underlying24, run_underlying Tryd.underlying3, sizeOf, typeInfo, hi, hby, asInt]
    · have h48' : ¬ (281474976710656 < Builtin.nextslicecap m 0 * 8) := by rw [nextslicecap_zero (by omega)]; omega
      have hgr := grown 0 (by omega) (Value.ownBlock (.slice none 0 0))
      simp only [Nat.zero_add, List.nil_append, Array.empty_append] at hgr ⊢
      refine ⟨_, _, ?_, hgr.1, hgr.2⟩
      simp [Builtin.append_, run_underlying Tryd.underlying24, run_underlying Tryd.underlying3, sizeOf, typeInfo, zeroValue, hi, hz, hsz, hby, asInt, hai, hwr, hm0, hm8, hm, h48', Question.forced, run_firstCells_none, newRow, grownCap, hzc, h63m, zeroCells_u64]
  · have hn1 : n * 1 = n := Nat.mul_one n
    have hxl : xs.length = n := by have := hown.1; omega
    by_cases hroom : n + m ≤ cap
    · by_cases hm : m = 0
      · subst hm
        refine ⟨.slice (some ⟨g, 0, none⟩) n cap, w, ?_, ?_, ⟨rfl, rfl, rfl, Nat.le_refl _, fun _ _ _ => rfl⟩⟩
        · simp [hai0, hwr0, Builtin.append_, run_underlying Tryd.underlying24, run_underlying Tryd.underlying3, sizeOf, typeInfo, hi, hby, asInt, hnc, storeCells]
        · simpa [U] using hown
      · have hfit : n + (U .u64 (List.replicate m 0)).length ≤ cur.size := by rw [U_len, List.length_replicate, hcs]; omega
        have hst := run_storeCells_at Tryd.prog g n 58 (U .u64 (List.replicate m 0)) 0 cur w hg (by simpa using hfit) U_oneZ
        simp only [Nat.add_zero] at hst
        refine ⟨.slice (some ⟨g, 0, none⟩) (n + m) cap, w.setRow g (cur.toList.take n ++ U .u64 (List.replicate m 0) ++ cur.toList.drop (n + (U .u64 (List.replicate m 0)).length)).toArray, ?_, ⟨hlen, .inr ⟨g, cap, _, rfl, hbg, setRow_heap w g cur _ 58 _ hg, hroom, hcm, ?_, ?_⟩⟩, ⟨rfl, rfl, rfl, by simp, fun k _ hk => setRow_other w g k _ (fun e => hk (by simp [Value.ownBlock, e]))⟩⟩
        · simp [hai, hwr, hm0, hm8, hm, Builtin.append_, run_underlying Tryd.underlying24, run_underlying Tryd.underlying3, sizeOf, typeInfo, zeroValue, hi, hz, hsz, hby, asInt, hroom, hzc, zeroCells_u64, Addr.add_lit, hst]
        · simp only [List.size_toArray, List.length_append, List.length_take, List.length_drop, Array.length_toList, U_len, List.length_replicate]
          rw [U_len, List.length_replicate] at hfit
          omega
        · have h1 : cur.toList.take n = xs := by rw [← hn1]; exact htake
          rw [h1, ← hlen]
          exact List.take_left
    · have holds : ∀ j u, xs[j]? = some u → w.cell? ((⟨g, 0, none⟩ : Addr).add j) = some u := hown.cells (g := g) rfl
      have hfo := run_firstCells_some (P := Tryd.prog) w.drew 1 n ⟨g, 0, none⟩ n cap xs (by omega) (by simpa using holds)
      have hfit : ¬ (281474976710656 < Builtin.nextslicecap (n + m) cap * 8) := by have := growslice_fits (need := n + m) (old := cap) (bytes := 8) (by omega) hbytes; omega
      have hgr := grown cap (by omega) (Value.ownBlock (.slice (some ⟨g, 0, none⟩) n cap))
      have hm : m ≠ 0 := by omega
      refine ⟨_, _, ?_, hgr.1, hgr.2⟩
      simp [hai, hwr, hm0, hm8, hm, Builtin.append_, run_underlying Tryd.underlying24, run_underlying Tryd.underlying3, sizeOf, typeInfo, zeroValue, hi, hz, hsz, hby, asInt, hroom, hzc, h63n, hfit, Question.forced, hfo, newRow, grownCap, zeroCells_u64]

theorem wp_append_zeros {w : World} {o : Oper} {a : Act} {K : Act → World → Prop} {Q : Exit → Act → World → Prop} (s x : Operand)
    (ho : o.op = .call { callee := .builtin .append, args := #[s, x], argTypes := #[24, 3] })
    (base : Nat) (v : Value) (n : Nat) (xs : List Value) (hs : a.eval s = v) (hown : w.ownsRow base 58 1 v n xs) (m : Nat) (hx : a.eval x = .int .i64 (m : Int))
    (h63 : n + m ≤ maxLen) (hbytes : (n + m) * 8 ≤ 140737488355328) (hbase : base ≤ w.heap.size)
    (h : ∀ v' w', w'.ownsRow base 58 1 v' (n + m) (xs ++ U .u64 (List.replicate m 0)) → w.grownBy w' v.ownBlock → K (a.put o.dst v') w') : o.wp Tryd.prog a w K Q := by
  obtain ⟨v', w', hr, h2, h3⟩ := run_append_zeros w base o.type v n xs hown m h63 hbytes hbase
  unfold Oper.wp execOp
  simp only [ho, resolve, invoke, builtin, Sem.run_bind, Sem.run_pure, Result.andThen_ok, List.map_toArray, List.map_cons, List.map_nil, hs, hx, hr]
  exact h v' w' h2 h3
theorem wpList_append_zeros {w : World} {ops : Array Oper} {rest : List Oper} {o : Oper} {a : Act} {Q : Exit → Act → World → Prop} (hgd : o.guard = none) (s x : Operand)
    (ho : o.op = .call { callee := .builtin .append, args := #[s, x], argTypes := #[24, 3] })
    (base : Nat) (v : Value) (n : Nat) (xs : List Value) (hs : a.eval s = v) (hown : w.ownsRow base 58 1 v n xs) (m : Nat) (hx : a.eval x = .int .i64 (m : Int))
    (h63 : n + m ≤ maxLen) (hbytes : (n + m) * 8 ≤ 140737488355328) (hbase : base ≤ w.heap.size)
    (h : ∀ v' w', w'.ownsRow base 58 1 v' (n + m) (xs ++ U .u64 (List.replicate m 0)) → w.grownBy w' v.ownBlock → wpList Tryd.prog ops Q rest (a.put o.dst v') w') : wpList Tryd.prog ops Q (o :: rest) a w := by
  refine wpList_step fun K hK => ?_
  have hw : Region.wanted o (yielded ops a.tmps) = true := by unfold Region.wanted; rw [hgd]
  rw [if_pos hw]
  exact wp_append_zeros s x ho base v n xs hs hown m hx h63 hbytes hbase fun v' w' h1 h2 => hK _ _ (h v' w' h1 h2)

set_option maxRecDepth 100000 in
set_option maxHeartbeats 1000000 in
theorem padded_any (A : Option Addr) (n c : Nat) (xs : List Nat) (m : Nat) (w : World) (h : RdN .u64 w A n c xs) (hn : n ≤ m) (hm : m ≤ 100000) :
    Calls Tryd.prog 98 #[.slice A n c, .int .i64 (m : Int)] w fun e w' => ∃ v, e = .returned v ∧ w'.ownsRow w.heap.size 58 1 v m (U .u64 (xs ++ List.replicate (m - n) 0)) ∧ Below w.heap.size w w' := by
  have hcap := h.cap
  have hmax := h.max
  unfold maxLen at hmax
  go_enter Tryd.func98, Tryd.ntmps98
  go_wp2_with fail
  refine (clone_any A n c xs _ h (by omega)).mono ?_
  rintro e w1 ⟨v, rfl, hown, hb1⟩
  have es : (m : Int) - (n : Int) = ((m - n : Nat) : Int) := by omega
  go_wp2_with (at_builtin; refine wpList_append_zeros rfl _ _ rfl w.heap.size _ n _ rfl hown (m - n) (by first | rfl | (simp [go_sem]; done) | (show Value.int .i64 _ = _; rw [es])) ?c3 ?c4 ?c5 ?_)
  case c3 => unfold maxLen; omega
  case c4 => omega
  case c5 => exact hb1.size
  intro v' w2 hown2 hg2
  have hb2 : Below w.heap.size w w2 := hb1.grown hg2 hb1.size (fun k hk => (hown.lt k hk).1)
  rw [U_append] at hown2
  go_wp2
  go_ret
  exact ⟨_, rfl, hown2, hb2⟩
end Go.Proofs.YteodljieiloebaaDoor
