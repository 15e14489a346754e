/- sluicewaylaw22: told, BoundGrows, BoundHalves. -/
import Derived.Test.YtdnknokhcliikaaDoorBdB
import Derived.Deep.WholeRow
namespace Go.Proofs.YtdnknokhcliikaaDoor
open Go.RowKit Pl

theorem att_zero {r : Int} (h : AttPost 0 Dy.zero Dy.zero Dy.zero r) : r = 0 := by
  unfold AttPost at h
  rw [if_pos (by decide)] at h
  exact h
theorem one_rd {w : World} {b : Nat} {x : Nat} {e : Int} (hb : b < w.heap.size) (hx : x < BB) (h : w.cell? ⟨b, 0, none⟩ = some (.int .u64 (x : Int))) (he1 : -9223372036854775808 ≤ e) (he2 : e ≤ 9223372036854775807) :
    RdD w (.agg #[.bool false, .slice (some ⟨b, 0, none⟩) 1 1, .int .i64 e]) (onD x e) :=
  ⟨some ⟨b, 0, none⟩, 1, 1, rfl, ⟨rfl, Nat.le_refl _, by decide, fun _ => ⟨b, 0, rfl, hb, fun k hk => by
    obtain rfl : k = 0 := by omega
    exact h⟩⟩, fun y hy => by simp [onD] at hy; omega, he1, he2⟩

/-- A whole plan into the block that was made last. -/
theorem wpList_store_plan {ops : Array Oper} {rest : List Oper} {o : Oper} {a : Act} {Q : Exit → Act → World → Prop} {w : World} {c c' : Array Value} {x y : Operand} {b : Nat} (hgd : o.guard = none) (ho : o.op = .store 31 x y)
    (hx : a.eval x = .pointer (some ⟨b, 0, none⟩)) (hb : b = w.heap.size) (hy : a.eval y = .agg c') (hc : c.size = 22) (hc' : c'.size = 22) (h1 : c'.toList.all (·.oneCell') = true)
    (h : wpList Tryd.prog ops Q rest (a.put o.dst undef) (w.alloc (.cells c' 31))) : wpList Tryd.prog ops Q (o :: rest) a (w.alloc (.cells c 31)) := by
  subst hb
  refine wpList_store_row (g := w.heap.size) (old := c) (cells := c') hgd _ x y ho hx hy 31 (heap_alloc_last w _) ?_ (hc.trans hc'.symm) (by rw [← Array.all_toList]; exact h1) ?_
  · rw [hc']; kernel_rfl
  · rw [World.setRow_alloc_new]; exact h
/-- A whole plan out of a block. -/
theorem wp_load_plan {o : Oper} {a : Act} {w : World} {K : Act → World → Prop} {Q : Exit → Act → World → Prop} {x : Operand} {b : Nat} {c : Array Value} (ho : o.op = .load 31 x) (hx : a.eval x = .pointer (some ⟨b, 0, none⟩))
    (hg : w.heap[b]? = some (.cells c 31 (0, 0))) (hc : c.size = 22) (h : K (a.put o.dst (.agg c)) w) : o.wp Tryd.prog a w K Q :=
  wp_load_row _ x ho b hx _ c _ _ hg Tryd.underlying31 rfl (by rw [hc]; kernel_rfl) h
theorem wpList_load_planG {ops : Array Oper} {rest : List Oper} {o : Oper} {a : Act} {w : World} {Q : Exit → Act → World → Prop} {x : Operand} {b : Nat} {c : Array Value} (ho : o.op = .load 31 x) (hx : a.eval x = .pointer (some ⟨b, 0, none⟩))
    (hg : w.heap[b]? = some (.cells c 31 (0, 0))) (hc : c.size = 22) (hw : Region.wanted o (yielded ops a.tmps) = true) (h : wpList Tryd.prog ops Q rest (a.put o.dst (.agg c)) w) : wpList Tryd.prog ops Q (o :: rest) a w := by
  refine wpList_step fun K hK => ?_
  rw [if_pos hw]
  exact wp_load_plan ho hx hg hc (hK _ _ h)
theorem rounds_a (w : World) : Calls Tryd.prog 14 #[.int .i64 2, .int .i64 1] w fun e w' => e = .returned (.int .i64 80) ∧ w = w' := rounds_any 2 1 w
theorem rounds_b (w : World) : Calls Tryd.prog 14 #[.int .i64 (-1), .int .i64 5] w fun e w' => e = .returned (.int .i64 40) ∧ w = w' := rounds_any (-1) 5 w

set_option maxRecDepth 100000 in
set_option maxHeartbeats 4000000 in
theorem told_any (w : World) (hT : TabAt w) :
    Calls Tryd.prog 13 #[] w fun x w' => x = .returned (.bool true) ∧ Below w.heap.size w w' := by
  go_enter Tryd.func13, Tryd.ntmps13
  obtain ⟨W, hW⟩ : ∃ W, W = ((((w.alloc (.cells #[.int .u64 1] 37)).alloc (.cells #[.bool false, .slice (some ⟨w.heap.size, 0, none⟩) 1 1, .int .i64 0] 24)).alloc (.cells #[.int .u64 1] 37)).alloc (.cells #[.int .i64 0, .int .i64 3, .int .i64 0, .int .i64 0, .bool false, .slice (some ⟨w.heap.size, 0, none⟩) 1 1, .int .i64 0, .bool false, .slice (some ⟨w.heap.size, 0, none⟩) 1 1, .int .i64 0, .bool false, .slice (some ⟨w.heap.size + 1 + 1, 0, none⟩) 1 1, .int .i64 (-2), .bool false, .slice none 0 0, .int .i64 0, .slice none 0 0, .slice none 0 0, .slice none 0 0, .slice none 0 0, .slice none 0 0, .slice none 0 0] 31)) := ⟨_, rfl⟩
  have hb0 : Below w.heap.size w W := by rw [hW]; go_grown
  have hh3 : W.heap[w.heap.size + 1 + 1 + 1]? = some (.cells #[.int .i64 0, .int .i64 3, .int .i64 0, .int .i64 0, .bool false, .slice (some ⟨w.heap.size, 0, none⟩) 1 1, .int .i64 0, .bool false, .slice (some ⟨w.heap.size, 0, none⟩) 1 1, .int .i64 0, .bool false, .slice (some ⟨w.heap.size + 1 + 1, 0, none⟩) 1 1, .int .i64 (-2), .bool false, .slice none 0 0, .int .i64 0, .slice none 0 0, .slice none 0 0, .slice none 0 0, .slice none 0 0, .slice none 0 0, .slice none 0 0] 31 (0, 0)) := by
    have hs : (((w.alloc (.cells #[.int .u64 1] 37)).alloc (.cells #[.bool false, .slice (some ⟨w.heap.size, 0, none⟩) 1 1, .int .i64 0] 24)).alloc (.cells #[.int .u64 1] 37)).heap.size = w.heap.size + 1 + 1 + 1 := by simp
    rw [hW, ← hs]
    exact heap_alloc_last _ _
  have hz0 : w.heap.size < W.heap.size := by rw [hW]; simp <;> omega
  have hz2 : w.heap.size + 1 + 1 < W.heap.size := by rw [hW]; simp <;> omega
  have hc0 : W.cell? ⟨w.heap.size, 0, none⟩ = some (.int .u64 1) := by rw [hW]; simp [go_sem]
  have hc2 : W.cell? ⟨w.heap.size + 1 + 1, 0, none⟩ = some (.int .u64 1) := by rw [hW]; simp [go_sem]
  go_upto_region 3 with (refine wpList_store_plan rfl rfl rfl (by simp) rfl rfl rfl rfl ?_)
  rw [← hW]
  clear hW
  have hT1 := hT.below hb0
  have ho : RdD W (.agg #[.bool false, .slice (some ⟨w.heap.size, 0, none⟩) 1 1, .int .i64 0]) (onD 1 0) := one_rd hz0 BB_gt1 hc0 (by omega) (by omega)
  have hl : RdD W (.agg #[.bool false, .slice (some ⟨w.heap.size + 1 + 1, 0, none⟩) 1 1, .int .i64 (-2)]) (onD 1 (-2)) := one_rd hz2 BB_gt1 hc2 (by omega) (by omega)
  have h1 : RdP W (.agg #[.int .i64 0, .int .i64 3, .int .i64 0, .int .i64 0, .bool false, .slice (some ⟨w.heap.size, 0, none⟩) 1 1, .int .i64 0, .bool false, .slice (some ⟨w.heap.size, 0, none⟩) 1 1, .int .i64 0, .bool false, .slice (some ⟨w.heap.size + 1 + 1, 0, none⟩) 1 1, .int .i64 (-2), .bool false, .slice none 0 0, .int .i64 0, .slice none 0 0, .slice none 0 0, .slice none 0 0, .slice none 0 0, .slice none 0 0, .slice none 0 0]) 3 (onD 1 0) (onD 1 0) (onD 1 (-2)) :=
    ⟨_, _, _, _, _, _, _, _, _, rfl, ho, ho, hl⟩
  clear ho hl hc0 hc2 hz0 hz2
  have H1 := hide h1
  clear h1
  go_wp2_with (first
    | (refine wpList_load_planG rfl rfl hh3 rfl (by first | rfl | go_simp) ?_)
    | (go_at_call 14; (first | (with_reducible refine (rounds_a _).mono ?_) | (with_reducible refine (rounds_b _).mono ?_)); rintro e w' ⟨rfl, rfl⟩))
  refine (attempts_any _ _ _ _ _ _ H1.out hT1).mono ?_
  rintro e w2 ⟨r, rfl, hr, hb2⟩
  have hr9 : r = 9 := att_pow (k := 2) (by omega) (by omega) (by omega) hr
  subst hr9
  have hT2 := hT1.below hb2
  clear hr H1 hh3
  go_wp2_with fail
  refine (attempts_any 0 _ Dy.zero Dy.zero Dy.zero _ ⟨_, _, _, _, _, _, _, _, _, rfl, RdD.zero _, RdD.zero _, RdD.zero _⟩ hT2).mono ?_
  rintro e w3 ⟨r, rfl, hr, hb3⟩
  have hr0 := att_zero hr
  subst hr0
  clear hr
  go_wp2_with fail
  go_ret
  exact ⟨rfl, below_then hb0 (below_then hb2 hb3)⟩
end Go.Proofs.YtdnknokhcliikaaDoor
