/- Rows of intervals, tubes, as data. Rows of structs that a call builds by appending, and what it then returns. slices.Grow of nothing: a row with room, of the call's own making. slices.Concat of two rows, by its tree. Printed by wip/mk_TbC.py. -/
import Derived.Test.YtbpfnooloemieaaGreatDoorSxGx
import Derived.Test.YtbpfnooloemieaaGreatDoorIvAx
namespace Go.Proofs.YtbpfnooloemieaaGreatDoor
open Go.RowKit Pl
namespace Sx
/-- Intervals as elements. -/
def kI : Kind Iv where
  sz := 6
  El _ w cs a := ∃ A n c B m d, cs = [.bool a.lo.neg, .slice A n c, .int .i64 a.lo.e, .bool a.hi.neg, .slice B m d, .int .i64 a.hi.e] ∧ RdD w (.agg #[.bool a.lo.neg, .slice A n c, .int .i64 a.lo.e]) a.lo ∧ RdD w (.agg #[.bool a.hi.neg, .slice B m d, .int .i64 a.hi.e]) a.hi
  len := by rintro _ _ _ _ ⟨A, n, c, B, m, d, rfl, _⟩; rfl
  mv := by
    rintro _ _ _ _ _ _ m ⟨A, n, c, B, k, d, rfl, ⟨A', n', c', h1, h2, h3⟩, ⟨B', k', d', i1, i2, i3⟩⟩
    exact ⟨A, n, c, B, k, d, rfl, ⟨A', n', c', h1, m.rd (by decide) h2, h3⟩, ⟨B', k', d', i1, m.rd (by decide) i2, i3⟩⟩
  okc := by
    rintro _ _ _ _ ⟨A, n, c, B, m, d, rfl, _⟩ u hu
    simp only [List.mem_cons, List.not_mem_nil, or_false] at hu
    rcases hu with rfl | rfl | rfl | rfl | rfl | rfl
    · exact okB _
    · exact okS _ _ _
    · exact okI _
    · exact okB _
    · exact okS _ _ _
    · exact okI _
end Sx
/-- A tube: its times, its intervals. -/
structure Tb where
  at_ : List Dy
  v : List Iv
namespace Sx
end Sx
end Go.Proofs.YtbpfnooloemieaaGreatDoor
namespace Go.Proofs.YtbpfnooloemieaaGreatDoor
open Go.RowKit Pl
namespace Sx
theorem addr_at (g o k : Nat) : (⟨g, o, none⟩ : Addr).add k = ⟨g, o + k, none⟩ := by unfold Addr.add; split <;> simp_all
variable {α : Type} {k : Kind α}
/-- A row that reads as a list: its cells, one behind the other. -/
theorem Rows.flat {ok : Nat → Prop} {w : World} {g off n c : Nat} {l : List α} (h : Rows k ok w (some ⟨g, off, none⟩) n c l) :
    ∃ news : List Value, news.length = n * k.sz ∧ (∀ j u, news[j]? = some u → w.cell? ⟨g, off + j, none⟩ = some u) ∧ ∀ (i : Nat) x, l[i]? = some x → k.El ok w ((news.drop (i * k.sz)).take k.sz) x := by
  have hl := h.len
  by_cases hn : 0 < n
  · obtain ⟨g', off', hA, _, _, h4⟩ := h.at_ hn
    injection hA with hA
    injection hA with e1 e2
    subst e1 e2
    have key : ∀ m, m ≤ n → ∃ news : List Value, news.length = m * k.sz ∧ (∀ j u, news[j]? = some u → w.cell? ⟨g, off + j, none⟩ = some u) ∧ ∀ (i : Nat) x, i < m → l[i]? = some x → k.El ok w ((news.drop (i * k.sz)).take k.sz) x := by
      intro m
      induction m with
      | zero => exact fun _ => ⟨[], by simp, fun j u hu => by simp at hu, fun i x hi => absurd hi (by omega)⟩
      | succ m ih =>
        intro hm
        obtain ⟨news, e1, e2, e3⟩ := ih (by omega)
        obtain ⟨y, hy⟩ : ∃ y, l[m]? = some y := ⟨_, List.getElem?_eq_getElem (by omega)⟩
        obtain ⟨cs, f1, f2⟩ := h4 m y hy
        have hcl := k.len f1
        refine ⟨news ++ cs, by rw [List.length_append, e1, hcl, Nat.add_mul, Nat.one_mul], fun j u hu => ?_, fun i x hi hx => ?_⟩
        · rw [List.getElem?_append] at hu
          split at hu
          · exact e2 j u hu
          · have := f2 _ u hu
            rw [show off + m * k.sz + (j - news.length) = off + j by omega] at this
            exact this
        · by_cases hi2 : i < m
          · have hmul : i * k.sz + k.sz ≤ m * k.sz := by rw [← Nat.succ_mul]; exact Nat.mul_le_mul_right _ hi2
            rw [List.drop_append_of_le_length (by omega), List.take_append_of_le_length (by rw [List.length_drop]; omega)]
            exact e3 i x hi2 hx
          · obtain rfl : i = m := by omega
            rw [hy] at hx
            injection hx with hx
            subst hx
            rw [← e1, List.drop_left, List.take_of_length_le (by omega)]
            exact f1
    obtain ⟨news, e1, e2, e3⟩ := key n (Nat.le_refl _)
    exact ⟨news, e1, e2, fun i x hx => e3 i x (by have := (List.getElem?_eq_some_iff.1 hx).1; omega) hx⟩
  · obtain rfl : n = 0 := by omega
    obtain rfl : l = [] := List.eq_nil_of_length_eq_zero hl
    exact ⟨[], by simp, fun j u hu => by simp at hu, fun i x hx => by simp at hx⟩
theorem elts_ok {ok : Nat → Prop} {w : World} {l : List α} {xs : List Value} (hl : xs.length = l.length * k.sz) (hE : ∀ (i : Nat) x, l[i]? = some x → k.El ok w ((xs.drop (i * k.sz)).take k.sz) x) (hs : 0 < k.sz) : ∀ u ∈ xs, LeafOk u := by
  intro u hu
  obtain ⟨j, hj, rfl⟩ := List.mem_iff_getElem.1 hu
  have hi : j / k.sz < l.length := Nat.div_lt_of_lt_mul (by rw [Nat.mul_comm]; omega)
  refine k.okc (hE (j / k.sz) _ (List.getElem?_eq_getElem hi)) _ ?_
  have hdm := Nat.div_add_mod j k.sz
  have hlt := Nat.mod_lt j hs
  rw [Nat.mul_comm] at hdm
  refine List.mem_iff_getElem?.2 ⟨j % k.sz, ?_⟩
  rw [List.getElem?_take, if_pos hlt, List.getElem?_drop, hdm, List.getElem?_eq_getElem hj]
/-- What a callee has made, later on. -/
theorem Mv.later {w0 : World} {w w1 w3 : OW} {w2 : World} (h1 : Lf w0 w w1) (h : Lf w0 ⟨w2, w1.own, w1.bld⟩ w3) : Mv w2 w3.toWorld (fun g => w1.heap.size ≤ g) (fun g => w0.heap.size ≤ g) :=
  ⟨h.rd, h.sz, fun g hg ho => ⟨h.keep g hg (fun e => absurd (h1.wf.own g e).2 (by omega)) (fun e => absurd (h1.wf.bld g e).2.1 (by omega)), by have := h1.b.size; omega⟩⟩
/-- A row that the call builds reads as a list. -/
structure Gr (k : Kind α) (w0 : World) (e : TypeId) (w : OW) (s : Value) (l : List α) : Prop where
  pos : 0 < k.sz
  row : ∃ xs, OR w0 e k.sz w s l.length xs ∧ ∀ (i : Nat) x, l[i]? = some x → k.El (NB w) w.toWorld ((xs.drop (i * k.sz)).take k.sz) x
theorem Gr.nil (hk : 0 < k.sz) (w0 : World) (e : TypeId) (w : OW) : Gr k w0 e w (.slice none 0 0) [] := ⟨hk, [], OR.nil _ _ _ _, fun i x hx => by simp at hx⟩
theorem Gr.le {w0 : World} {e : TypeId} {w w' : OW} {s : Value} {l : List α} (h : Gr k w0 e w s l) (hl : Le w0 w w') : Gr k w0 e w' s l := by
  obtain ⟨hk, xs, h1, h2⟩ := h
  exact ⟨hk, xs, h1.le hl, fun i x hx => k.mv hl.toLf.mv (h2 i x hx)⟩
theorem Gr.len {w0 : World} {e : TypeId} {w : OW} {s : Value} {l : List α} (h : Gr k w0 e w s l) : ∃ A c, s = .slice A l.length c := by
  obtain ⟨_, xs, h1, _⟩ := h
  rcases h1.row.2 with ⟨rfl, hn⟩ | ⟨g, cap, cur, rfl, _⟩
  · exact ⟨none, 0, by rw [hn]⟩
  · exact ⟨_, _, rfl⟩
/-- What is appended: a row that reads as a list. -/
theorem Gr.app {w0 : World} {e : TypeId} {by' : Nat} {w : OW} {s : Value} {l l' : List α} (h : Gr k w0 e w s l) {g off c : Nat} (hR : Rows k (NB w) w.toWorld (some ⟨g, off, none⟩) l'.length c l') (h1 : l.length + l'.length ≤ maxLen) (h2 : (l.length + l'.length) * by' ≤ 140737488355328)
    {K : Value → OW → Prop} (hK : ∀ A c' w', App w0 w w' s (.slice A (l ++ l').length c') → Gr k w0 e w' (.slice A (l ++ l').length c') (l ++ l') → K (.slice A (l ++ l').length c') w') :
    AppOk w0 e k.sz by' s (.slice (some ⟨g, off, none⟩) l'.length c) w K := by
  obtain ⟨hk, xs, i1, i2⟩ := h
  obtain ⟨news, e1, e2, e3⟩ := hR.flat
  refine ⟨l.length, xs, ⟨g, off, none⟩, l'.length, c, news, i1, rfl, e1, fun j u hu => ?_, elts_ok e1 e3 hk, h1, h2, fun s' w' hA hO => ?_⟩
  · rw [addr_at]
    exact e2 j u hu
  · have hx := i1.row.1
    have hG : Gr k w0 e w' s' (l ++ l') := by
      refine ⟨hk, xs ++ news, by rw [List.length_append]; exact hO, fun i x hi => ?_⟩
      refine k.mv hA.toLf.mv ?_
      rw [List.getElem?_append] at hi
      split at hi
      · rename_i hlt
        have hmul : i * k.sz + k.sz ≤ l.length * k.sz := by rw [← Nat.succ_mul]; exact Nat.mul_le_mul_right _ hlt
        rw [List.drop_append_of_le_length (by omega), List.take_append_of_le_length (by rw [List.length_drop]; omega)]
        exact i2 i x hi
      · rename_i hge
        have := e3 _ x hi
        have hsub : i * k.sz = xs.length + (i - l.length) * k.sz := by rw [hx, ← Nat.add_mul]; congr 1; omega
        rw [hsub, List.drop_append]
        rw [show List.drop (xs.length + (i - l.length) * k.sz) xs = [] from List.drop_of_length_le (by omega), List.nil_append, Nat.add_sub_cancel_left]
        exact this
    obtain ⟨A, c', rfl⟩ := hG.len
    exact hK A c' w' hA hG
/-- It is given back: a row of the call's own making. -/
theorem Gr.done {w0 : World} {e : TypeId} {w : OW} {A : Option Addr} {n c : Nat} {l : List α} (h : Gr k w0 e w (.slice A n c) l) (kok : ∀ {w' cs x}, k.El (NB w) w' cs x → k.El (fun g => w0.heap.size ≤ g) w' cs x) : Rows k (fun g => w0.heap.size ≤ g) w.toWorld A n c l := by
  obtain ⟨hk, xs, i1, i2⟩ := h
  rcases i1.row.2 with ⟨hv, hn⟩ | ⟨g, cap, cur, hv, hb, hg, hcap, hmax, _, _⟩
  · injection hv with v1 v2 v3
    subst v1 v2 v3
    obtain rfl : l = [] := List.eq_nil_of_length_eq_zero hn
    exact Rows.nil _ _ _
  · injection hv with v1 v2 v3
    subst v1 v2 v3
    refine ⟨rfl, hcap, hmax, fun ad h _ => by injection h with h; subst h; rfl, fun hn => ⟨g, 0, rfl, ?_, hb, fun i x hx => ⟨_, kok (i2 i x hx), fun j u hu => ?_⟩⟩⟩
    · exact (Array.getElem?_eq_some_iff.1 hg).1
    · rw [List.getElem?_take] at hu
      split at hu
      · rw [List.getElem?_drop] at hu
        have := i1.row.cells (g := g) rfl _ _ hu
        rw [addr_at] at this
        rw [Nat.zero_add] at this ⊢
        exact this
      · cases hu
end Sx
end Go.Proofs.YtbpfnooloemieaaGreatDoor
namespace Go.Proofs.YtbpfnooloemieaaGreatDoor
open Go.RowKit Pl
theorem run_zeros_nil {t e : TypeId} {i : TypeInfo} {z : Value} (w : World) (ty : TypeId) (ht : Tryz.prog.underlying t = some (.slice e)) (hi : Tryz.prog.info? e = some i) (hz : i.zero = some z) (hsz : 0 < i.size) (m : Nat) (h0 : 0 < m) (h63 : m ≤ maxLen) (hb : m * i.bytes ≤ 140737488355328) :
    (Builtin.append_ #[t, 3] ty #[.slice none 0 0, .int .i64 (m : Int)]).run Tryz.prog w = .ok (.slice (some ⟨w.heap.size, 0, none⟩) m (grownCap w m 0 e)) (w.drew.alloc (.cells (Builtin.zeroCells z.cells m ++ Builtin.zeroCells z.cells (grownCap w m 0 e - m)) e)) := by
  have hsmall : m ≤ 9223372036854775807 := by simp only [maxLen] at h63; omega
  have hm : m ≠ 0 := by omega
  have hwr : IntKind.i64.wrap (m : Int) = (m : Int) := IntWalk.i64_in _ (by omega)
  have hm0 : ¬ ((m : Int) < 0) := by omega
  have hai : ∀ w, (asIntOf (Value.int .i64 (m : Int))).run Tryz.prog w = .ok (.i64, (m : Int)) w := fun _ => rfl
  have h63m : ¬ (9223372036854775807 < (m : Int)) := by omega
  have hm8 : ¬ (281474976710656 < (m : Int) * (i.bytes : Int)) := by
    have h1 : ((m * i.bytes : Nat) : Int) ≤ 140737488355328 := by omega
    rw [Int.natCast_mul] at h1
    omega
  have h48' : ¬ (281474976710656 < Builtin.nextslicecap m 0 * i.bytes) := by rw [nextslicecap_zero h0]; omega
  simp [Builtin.append_, run_underlying ht, run_underlying Tryz.underlying3, sizeOf, typeInfo, zeroValue, hi, hz, asInt, hai, hwr, hm0, hm8, hm, h48', Question.forced, run_firstCells_none, newRow, grownCap, h63m]
  intro h
  exact absurd h (by have := Nat.mul_pos h0 hsz; omega)
theorem wpList_zeros_nil {t e : TypeId} {i : TypeInfo} {z : Value} {w : World} {ops : Array Oper} {rest : List Oper} {o : Oper} {a : Act} {Q : Exit → Act → World → Prop} (hgd : o.guard = none) (s x : Operand)
    (ho : o.op = .call { callee := .builtin .append, args := #[s, x], argTypes := #[t, 3] }) (ht : Tryz.prog.underlying t = some (.slice e)) (hi : Tryz.prog.info? e = some i) (hz : i.zero = some z) (hsz : 0 < i.size)
    (hs : a.eval s = .slice none 0 0) (m : Nat) (hx : a.eval x = .int .i64 (m : Int)) (h0 : 0 < m) (h63 : m ≤ maxLen) (hb : m * i.bytes ≤ 140737488355328)
    (h : wpList Tryz.prog ops Q rest (a.put o.dst (.slice (some ⟨w.heap.size, 0, none⟩) m (grownCap w m 0 e))) (w.drew.alloc (.cells (Builtin.zeroCells z.cells m ++ Builtin.zeroCells z.cells (grownCap w m 0 e - m)) e))) : wpList Tryz.prog ops Q (o :: rest) a w := by
  refine wpList_step fun K hK => ?_
  have hw : Region.wanted o (yielded ops a.tmps) = true := by unfold Region.wanted; rw [hgd]
  rw [if_pos hw]
  have hr := run_zeros_nil w o.type ht hi hz hsz m h0 h63 hb
  unfold Oper.wp execOp
  simp only [ho, resolve, invoke, builtin, Sem.run_bind, Sem.run_pure, Result.andThen_ok, List.map_toArray, List.map_cons, List.map_nil, hs, hx, hr]
  exact hK _ _ h
/-- A row with nothing in it yet, but room, of a call's own making. -/
def Room (w0 w : World) (e : TypeId) (sz : Nat) (A : Option Addr) (c : Nat) : Prop := (A = none ∧ c = 0) ∨ ∃ g cur, A = some ⟨g, 0, none⟩ ∧ w0.heap.size ≤ g ∧ w.heap[g]? = some (.cells cur e (0, 0)) ∧ c ≤ maxLen ∧ cur.size = c * sz ∧ ∀ u ∈ cur.toList, Sx.LeafOk u
theorem room_of {w : World} {e : TypeId} {m sz : Nat} {z : Array Value} (h63 : m ≤ maxLen) (hz : z.size = sz) (hok : ∀ u ∈ z.toList, Sx.LeafOk u) {c : Nat} (hc : c = grownCap w m 0 e) :
    Room w (w.drew.alloc (.cells (Builtin.zeroCells z m ++ Builtin.zeroCells z (c - m)) e)) e sz (some ⟨w.heap.size, 0, none⟩) c := by
  subst hc
  have hge := grownCap_ge w m 0 e
  refine .inr ⟨_, _, rfl, Nat.le_refl _, heap_alloc_new w.drew _, grownCap_le_maxLen w m 0 e h63, ?_, fun u hu => ?_⟩
  · rw [Array.size_append, size_zeroCells, size_zeroCells, hz, ← Nat.add_mul]
    congr 1
    omega
  · rw [Array.toList_append] at hu
    rcases List.mem_append.1 hu with hu | hu
    · exact hok u (Sx.zeroCells_mem hu)
    · exact hok u (Sx.zeroCells_mem hu)
theorem ok_z3 : ∀ u ∈ (Value.agg #[.bool false, .slice none 0 0, .int .i64 0]).cells.toList, Sx.LeafOk u := by
  intro u hu
  simp [Value.cells] at hu
  rcases hu with rfl | rfl | rfl
  · exact Sx.okB _
  · exact Sx.okS _ _ _
  · exact Sx.okI _
theorem ok_z6 : ∀ u ∈ (Value.agg #[.bool false, .slice none 0 0, .int .i64 0, .bool false, .slice none 0 0, .int .i64 0]).cells.toList, Sx.LeafOk u := by
  intro u hu
  simp [Value.cells] at hu
  rcases hu with rfl | rfl | rfl | rfl | rfl | rfl
  · exact Sx.okB _
  · exact Sx.okS _ _ _
  · exact Sx.okI _
  · exact Sx.okB _
  · exact Sx.okS _ _ _
  · exact Sx.okI _
set_option maxRecDepth 100000 in
theorem info_D : ∃ i, Tryz.prog.info? 30 = some i ∧ i.zero = some (.agg #[.bool false, .slice none 0 0, .int .i64 0]) ∧ i.bytes = 40 ∧ i.size = 3 := ⟨_, rfl, by kernel_rfl, by kernel_rfl, by kernel_rfl⟩
set_option maxRecDepth 100000 in
theorem info_I : ∃ i, Tryz.prog.info? 49 = some i ∧ i.zero = some (.agg #[.bool false, .slice none 0 0, .int .i64 0, .bool false, .slice none 0 0, .int .i64 0]) ∧ i.bytes = 80 ∧ i.size = 6 := ⟨_, rfl, by kernel_rfl, by kernel_rfl, by kernel_rfl⟩
set_option maxRecDepth 100000 in
set_option maxHeartbeats 1000000 in
theorem growD_any (m : Nat) (w : World) (hm : m ≤ 100000) :
    Calls Tryz.prog 113 #[.slice none 0 0, .int .i64 (m : Int)] w fun e w' => (∃ A c, e = .returned (.slice A 0 c) ∧ Room w w' 30 3 A c) ∧ Below w.heap.size w w' := by
  obtain ⟨i, hi, hz, hby, hsz⟩ := info_D
  have h63 : m ≤ maxLen := by unfold maxLen; omega
  rcases Nat.eq_zero_or_pos m with rfl | h0
  · go_enter Tryz.func113, Tryz.ntmps113
    go_wp2
    go_ret
    exact ⟨⟨none, 0, rfl, .inl ⟨rfl, rfl⟩⟩, Below.refl _ _⟩
  · have hgc : ∃ c, c = grownCap w m 0 30 := ⟨_, rfl⟩
    obtain ⟨c, hc⟩ := hgc
    have hge : m ≤ c := hc ▸ grownCap_ge w m 0 _
    have hR := room_of (w := w) (e := 30) (sz := 3) h63 rfl ok_z3 hc
    go_enter Tryz.func113, Tryz.ntmps113
    go_wp2_with (at_builtin; refine wpList_zeros_nil rfl _ _ rfl Tryz.underlying23 hi hz (by omega) (by first | rfl | (simp [go_sem]; done)) m (by first | rfl | (simp [go_sem]; done)) h0 h63 (by rw [hby]; omega) ?_)
    rw [← hc]
    go_ret
    exact ⟨⟨_, c, rfl, hR⟩, by go_grown⟩
set_option maxRecDepth 100000 in
set_option maxHeartbeats 1000000 in
theorem growI_any (m : Nat) (w : World) (hm : m ≤ 100000) :
    Calls Tryz.prog 114 #[.slice none 0 0, .int .i64 (m : Int)] w fun e w' => (∃ A c, e = .returned (.slice A 0 c) ∧ Room w w' 49 6 A c) ∧ Below w.heap.size w w' := by
  obtain ⟨i, hi, hz, hby, hsz⟩ := info_I
  have h63 : m ≤ maxLen := by unfold maxLen; omega
  rcases Nat.eq_zero_or_pos m with rfl | h0
  · go_enter Tryz.func114, Tryz.ntmps114
    go_wp2
    go_ret
    exact ⟨⟨none, 0, rfl, .inl ⟨rfl, rfl⟩⟩, Below.refl _ _⟩
  · have hgc : ∃ c, c = grownCap w m 0 49 := ⟨_, rfl⟩
    obtain ⟨c, hc⟩ := hgc
    have hge : m ≤ c := hc ▸ grownCap_ge w m 0 _
    have hR := room_of (w := w) (e := 49) (sz := 6) h63 rfl ok_z6 hc
    go_enter Tryz.func114, Tryz.ntmps114
    go_wp2_with (at_builtin; refine wpList_zeros_nil rfl _ _ rfl Tryz.underlying22 hi hz (by omega) (by first | rfl | (simp [go_sem]; done)) m (by first | rfl | (simp [go_sem]; done)) h0 h63 (by rw [hby]; omega) ?_)
    rw [← hc]
    go_ret
    exact ⟨⟨_, c, rfl, hR⟩, by go_grown⟩
theorem Room.bl {w0 w : World} {e : TypeId} {sz : Nat} {A : Option Addr} {c : Nat} (h : Room w0 w e sz A c) : ∀ g ∈ (A.elim [] fun ad => [ad.block]), w0.heap.size ≤ g ∧ g < w.heap.size := by
  rcases h with ⟨rfl, _⟩ | ⟨g, cur, rfl, h1, h2, _⟩
  · intro g hg; cases hg
  · intro g' hg
    obtain rfl := List.mem_singleton.1 hg
    exact ⟨h1, (Array.getElem?_eq_some_iff.1 h2).1⟩
theorem Room.gr {α : Type} {k : Sx.Kind α} {w0 : World} {w w1 : Sx.OW} {w2 : World} {e : TypeId} {A : Option Addr} {c : Nat} (h1 : Sx.Le w0 w w1) (h : Room w1.toWorld w2 e k.sz A c) (hk : 0 < k.sz) : Sx.Gr k w0 e ⟨w2, w1.own, (A.elim [] fun ad => [ad.block]) ++ w1.bld⟩ (.slice A 0 c) ([] : List α) := by
  refine ⟨hk, [], ?_, fun i x hx => by simp at hx⟩
  rcases h with ⟨rfl, rfl⟩ | ⟨g, cur, rfl, h2, h3, h4, h5, h6⟩
  · exact Sx.OR.nil _ _ _ _
  · refine ⟨⟨by simp, .inr ⟨g, c, cur, rfl, Nat.le_trans h1.b.size h2, h3, Nat.zero_le _, h4, h5, by simp⟩⟩, fun g' hg => ?_, fun g' cur' t x hg hc => ?_⟩
    · simp only [Value.ownBlock, Option.some.injEq] at hg
      subst hg
      exact List.mem_append_left _ (by simp)
    · simp only [Value.ownBlock, Option.some.injEq] at hg
      subst hg
      have h7 : w2.heap[g]? = some (.cells cur' t x) := hc
      rw [h3] at h7
      cases h7
      exact h6
namespace Sx
theorem Rows.fr {α : Type} {k : Kind α} {b b' : Nat} {w : World} {A : Option Addr} {n c : Nat} {l : List α} (h : Rows k (fun g => b ≤ g) w A n c l) (hb : b' ≤ b) : 0 < n → ∀ ad : Addr, A = some ad → b' ≤ ad.block := by
  intro hn ad he
  obtain ⟨g, off, h1, _, h3, _⟩ := h.at_ hn
  rw [h1] at he
  cases he
  exact Nat.le_trans hb h3
/-- A row whose block is known to be new. -/
theorem Rows.fresh {α : Type} {k : Kind α} {ok : Nat → Prop} {b : Nat} {w : World} {A : Option Addr} {n c : Nat} {l : List α} (h : Rows k ok w A n c l) (kok : ∀ {w' cs x}, k.El ok w' cs x → k.El (fun g => b ≤ g) w' cs x) (hz : 0 < n → ∀ ad : Addr, A = some ad → b ≤ ad.block) : Rows k (fun g => b ≤ g) w A n c l := by
  refine ⟨h.len, h.cap, h.max, h.pl, fun hn => ?_⟩
  obtain ⟨g, off, h1, h2, _, h4⟩ := h.at_ hn
  exact ⟨g, off, h1, h2, hz hn _ h1, fun i x hx => by
    obtain ⟨cs, e1, e2⟩ := h4 i x hx
    exact ⟨cs, kok e1, e2⟩⟩
section
variable {w0 : World} {w : OW} {R : Value → World → Prop} {Pn : List PanicEntry → World → Prop} {Bk : Back} {ρ : List Value} {t : Tree}
theorem sat_rowF {e : TypeId} {cs : List At} {n : Nat} {k : List At} (vs : List Value) (hcs : denL ρ [] cs = vs) (hk : ∀ x ∈ k, (x.den ρ []).oneCell' = true)
    (h : ∀ w1 : OW, Le w0 w ⟨w1.alloc (.cells vs.toArray e), w1.own, w1.bld⟩ → Box (w1.alloc (.cells vs.toArray e)) w1.heap.size vs e → NB ⟨w1.alloc (.cells vs.toArray e), w1.own, w1.bld⟩ w1.heap.size → w0.heap.size ≤ w1.heap.size → satB Tryz.prog w0 R Pn Bk t (ρ ++ [.slice (some ⟨w1.heap.size, 0, none⟩) n n]) ⟨w1.alloc (.cells vs.toArray e), w1.own, w1.bld⟩) : satB Tryz.prog w0 R Pn Bk (.row e cs n k t) ρ w := by
  refine ⟨hk, fun w' hl => .inl ?_⟩
  rw [hcs]
  exact h w' (hl.trans (Le.of hl.wf hl.b (by go_grown))) (Box.new w'.toWorld vs e) ⟨fun e => by have := (hl.wf.own _ e).2; omega, fun e => by have := (hl.wf.bld _ e).2.1; omega⟩ hl.b.size
end
/-- Two rows that do not lie in one block. -/
def Apart (s s' : Value) : Prop := ∀ g, s.ownBlock = some g → s'.ownBlock ≠ some g
theorem Apart.symm {s s' : Value} (h : Apart s s') : Apart s' s := fun g h1 h2 => h g h2 h1
theorem Apart.nil {s : Value} : Apart s (.slice none 0 0) := fun _ _ h => by cases h
/-- A row that is built, beside another one that is appended to. -/
theorem Gr.other {α : Type} {k : Kind α} {w0 : World} {w w' : OW} {e : TypeId} {s s' s2 : Value} {l : List α} (h : Gr k w0 e w s2 l) (hA : App w0 w w' s s') (hd : Apart s s2) (hw : WF w0 w) : Gr k w0 e w' s2 l ∧ Apart s' s2 := by
  obtain ⟨hk, xs, i1, i2⟩ := h
  have key : ∀ g, s2.ownBlock = some g → w'.heap[g]? = w.heap[g]? := fun g hg => hA.keepB g (i1.blk g hg) (fun e => hd g e hg)
  refine ⟨⟨hk, xs, ⟨⟨i1.row.1, ?_⟩, fun g hg => hA.bld g (i1.blk g hg), fun g cur t x hg hc => i1.ok g cur t x hg (by rw [← key g hg]; exact hc)⟩, fun i x hx => k.mv hA.toLf.mv (i2 i x hx)⟩, fun g hg hg2 => ?_⟩
  · rcases i1.row.2 with hn | ⟨g, cap, cur, rfl, hb, hgg, rest⟩
    · exact .inl hn
    · exact .inr ⟨g, cap, cur, rfl, hb, by rw [key g rfl]; exact hgg, rest⟩
  · rcases hA.blk with h1 | h1
    · exact hd g (h1 ▸ hg) hg2
    · rw [h1] at hg
      cases hg
      exact absurd (hw.bld _ (i1.blk _ hg2)).2.1 (by omega)
section
variable {w0 : World} {w : OW} {R : Value → World → Prop} {Pn : List PanicEntry → World → Prop} {Bk : Back} {ρ : List Value} {t : Tree}
end
/-- A row of one to build upon. -/
theorem Gr.one {α : Type} {k : Kind α} {w0 : World} {w : OW} {e : TypeId} {g : Nat} {cs : List Value} {x : α} (hk : 0 < k.sz) (hB : Box w.toWorld g cs e) (hg : g ∈ w.bld) (hb : w0.heap.size ≤ g) (he : k.El (NB w) w.toWorld cs x) : Gr k w0 e w (.slice (some ⟨g, 0, none⟩) 1 1) [x] := by
  have hl := k.len he
  refine ⟨hk, cs, ⟨⟨by rw [hl]; simp, .inr ⟨g, 1, cs.toArray, rfl, hb, hB, Nat.le_refl _, by decide, by simp [hl], ?_⟩⟩, fun g' h' => ?_, fun g' cur t x' h' hc => ?_⟩, fun i y hy => ?_⟩
  · simp only [List.length_cons, List.length_nil]
    rw [List.take_of_length_le (by omega)]
  · simp only [Value.ownBlock, Option.some.injEq] at h'
    subst h'
    exact hg
  · simp only [Value.ownBlock, Option.some.injEq] at h'
    subst h'
    have h7 : w.heap[g]? = some (.cells cs.toArray e (0, 0)) := hB
    rw [h7] at hc
    cases hc
    intro u hu
    exact k.okc he u (by simpa using hu)
  · cases i with
    | zero =>
      simp only [List.getElem?_cons_zero, Option.some.injEq] at hy
      subst hy
      rw [Nat.zero_mul, List.drop_zero, List.take_of_length_le (by omega)]
      exact he
    | succ i => simp at hy
/-- Slices as elements, as they stand. -/
def kR : Kind (Option Addr × Nat × Nat) where
  sz := 1
  El _ _ cs s := cs = [.slice s.1 s.2.1 s.2.2]
  len := by rintro _ _ _ _ rfl; rfl
  mv := fun _ h => h
  okc := by
    rintro _ _ _ _ rfl u hu
    obtain rfl := List.mem_singleton.1 hu
    exact okS _ _ _
end Sx
end Go.Proofs.YtbpfnooloemieaaGreatDoor
namespace Go.Proofs.YtbpfnooloemieaaGreatDoor
open Go.RowKit Pl
open Sx (sat_call sat_chk sat_prim sat_ite sat_true sat_false sat_trueP sat_falseP sat_ret sat_row sat_callP sat_loop sat_back sat_idx sat_el sat_elf sat_elc sat_load sat_rowN sat_app sat_callB sat_alt rows_one rows_two all_nil all_cons okB okS okI)

/-- A row comes back, of the call's own making. -/
def RowRet {α : Type} (k : Sx.Kind α) (w0 w : World) (e : Ending) (l : List α) : Prop := ∃ (A : Option Addr) (c : Nat), e = .returned (.slice A l.length c) ∧ Sx.Rows k (fun g => w0.heap.size ≤ g) w A l.length c l

def tr_concDyad : Sx.Tree := .prim .len [.lf 0] (.loop 0 [.num .i64 0, .num .i64 0] (.prim (.bin .lss) [.lf 2, .lf 1] (.ite (.lf 4) (.prim (.idx 1) [.lf 0, .lf 2] (.load 23 (.lf 5) .one (.prim .len [.lf 6] (.prim (.bin .add) [.lf 3, .lf 7] (.prim (.bin .lss) [.lf 8, .num .i64 0] (.ite (.lf 9) .dead (.prim (.bin .add) [.lf 2, .num .i64 1] (.back 0 [.lf 10, .lf 8])))))))) (.call 113 [.one .nil, .one (.lf 3)] .one (.prim .len [.lf 0] (.loop 0 [.num .i64 0, .lf 5] (.prim (.bin .lss) [.lf 7, .lf 6] (.ite (.lf 9) (.prim (.idx 1) [.lf 0, .lf 7] (.load 23 (.lf 10) .one (.app 30 3 40 (.lf 8) (.lf 11) (.prim (.bin .add) [.lf 7, .num .i64 1] (.back 0 [.lf 13, .lf 12]))))) (.ret (.one (.lf 8)))))))))))
theorem tr_concDyad_eq : Sx.treeAt Tryz.prog 92 [] [] [(false, 1)] = some tr_concDyad := by kernel_rfl

set_option maxRecDepth 100000 in
theorem concDyad_any (A_s : Option Addr) (c_s : Nat) (A : Option Addr) (c_x : Nat) (B : Option Addr) (c_y : Nat) (x y : List Dy) (w : World) (h_s : Sx.Rows Sx.kR (fun _ => True) w A_s 2 c_s [(A, x.length, c_x), (B, y.length, c_y)]) (h_x : Sx.Rows Sx.kD (fun _ => True) w A x.length c_x x) (h_y : Sx.Rows Sx.kD (fun _ => True) w B y.length c_y y) (hx : 0 < x.length) (hy : 0 < y.length) (hl : x.length + y.length ≤ 1000) :
    Calls Tryz.prog 92 #[.slice A_s 2 c_s] w fun e w' => RowRet Sx.kD w w' e (x ++ y) ∧ Below w.heap.size w w' := by
  obtain ⟨gx, ox, rfl⟩ := h_x.addr hx
  obtain ⟨gy, oy, rfl⟩ := h_y.addr hy
  have F_s := h_s.start
  have F_x := h_x.start
  have F_y := h_y.start
  clear h_s h_x h_y
  refine (Sx.runA [] [] (ls := [.slice A_s 2 c_s]) (shs := [(false, 1)]) (R := fun v w' => RowRet Sx.kD w w' (.returned v) (x ++ y)) tr_concDyad_eq rfl (by decide) (fun q h => by cases h) ?_).mono (fun e w' ⟨v, he, hv, hb⟩ => ⟨by rw [he]; exact hv, hb⟩)
  unfold tr_concDyad
  refine sat_prim (v := .int .i64 2) (by kernel_rfl) ?_
  refine sat_loop (fun Kn vs W => (vs = [.int .i64 0, .int .i64 0] ∧ Kn = 2) ∨ (vs = [.int .i64 1, .int .i64 ((x.length : Nat) : Int)] ∧ Kn = 1) ∨ (vs = [.int .i64 2, .int .i64 ((x.length + y.length : Nat) : Int)] ∧ Kn = 0)) [.int .i64 0, .int .i64 0] (by kernel_rfl) (fun w1 h1 => ⟨2, .inl ⟨rfl, rfl⟩⟩) ?_
  rintro Kn vs w1 h1 (⟨rfl, rfl⟩ | ⟨rfl, rfl⟩ | ⟨rfl, rfl⟩)
  · replace F_s := F_s.mv h1.mv; replace F_x := F_x.mv h1.mv; replace F_y := F_y.mv h1.mv
    clear h1
    refine sat_prim (v := .bool true) (by kernel_rfl) ?_
    refine sat_true (by kernel_rfl) ?_
    refine sat_idx (A := A_s) (c := c_s) (kk := .i64) 0 (by kernel_rfl) (by kernel_rfl) (by decide) F_s.addr fun g2 o2 e2 => ?_
    refine sat_elc (d := 0) F_s e2 (show [((some (⟨gx, ox, none⟩ : Addr)), x.length, c_x), ((some (⟨gy, oy, none⟩ : Addr)), y.length, c_y)][0]? = some ((some (⟨gx, ox, none⟩ : Addr)), x.length, c_x) from rfl) rfl (by kernel_rfl) (by kernel_rfl) ?_
    rintro _ rfl
    refine ⟨_, rfl, ?_⟩
    refine sat_prim (v := .int .i64 ((x.length : Nat) : Int)) (by kernel_rfl) ?_
    refine sat_prim (v := .int .i64 ((x.length : Nat) : Int)) (Eq.trans (b := some (.int .i64 (IntKind.i64.wrap (0 + ((x.length : Nat) : Int))))) (by kernel_rfl) (by rw [IntWalk.i64_in _ (by omega)]; congr 2; omega)) ?_
    refine sat_prim (v := .bool (decide ((((x.length : Nat) : Int) : Int) < 0))) (by kernel_rfl) ?_
    refine sat_falseP (b := (decide ((((x.length : Nat) : Int) : Int) < 0))) (by kernel_rfl) (decide_eq_false (by omega)) ?_
    refine sat_prim (v := .int .i64 1) (by kernel_rfl) ?_
    exact sat_back [.int .i64 1, .int .i64 ((x.length : Nat) : Int)] (by kernel_rfl) fun w9 h9 => ⟨1, by decide, .inr (.inl ⟨rfl, rfl⟩)⟩
  · replace F_s := F_s.mv h1.mv; replace F_x := F_x.mv h1.mv; replace F_y := F_y.mv h1.mv
    clear h1
    refine sat_prim (v := .bool true) (by kernel_rfl) ?_
    refine sat_true (by kernel_rfl) ?_
    refine sat_idx (A := A_s) (c := c_s) (kk := .i64) 1 (by kernel_rfl) (by kernel_rfl) (by decide) F_s.addr fun g2 o2 e2 => ?_
    refine sat_elc (d := 0) F_s e2 (show [((some (⟨gx, ox, none⟩ : Addr)), x.length, c_x), ((some (⟨gy, oy, none⟩ : Addr)), y.length, c_y)][1]? = some ((some (⟨gy, oy, none⟩ : Addr)), y.length, c_y) from rfl) rfl (by kernel_rfl) (by kernel_rfl) ?_
    rintro _ rfl
    refine ⟨_, rfl, ?_⟩
    refine sat_prim (v := .int .i64 ((y.length : Nat) : Int)) (by kernel_rfl) ?_
    refine sat_prim (v := .int .i64 ((x.length + y.length : Nat) : Int)) (Eq.trans (b := some (.int .i64 (IntKind.i64.wrap (((x.length : Nat) : Int) + ((y.length : Nat) : Int))))) (by kernel_rfl) (by rw [IntWalk.i64_in _ (by omega)]; congr 2)) ?_
    refine sat_prim (v := .bool (decide ((((x.length + y.length : Nat) : Int) : Int) < 0))) (by kernel_rfl) ?_
    refine sat_falseP (b := (decide ((((x.length + y.length : Nat) : Int) : Int) < 0))) (by kernel_rfl) (decide_eq_false (by omega)) ?_
    refine sat_prim (v := .int .i64 2) (by kernel_rfl) ?_
    exact sat_back [.int .i64 2, .int .i64 ((x.length + y.length : Nat) : Int)] (by kernel_rfl) fun w9 h9 => ⟨0, by decide, .inr (.inr ⟨rfl, rfl⟩)⟩
  · replace F_s := F_s.mv h1.mv; replace F_x := F_x.mv h1.mv; replace F_y := F_y.mv h1.mv
    clear h1
    refine sat_prim (v := .bool false) (by kernel_rfl) ?_
    refine sat_false (by kernel_rfl) ?_
    refine sat_callB #[.slice none 0 0, .int .i64 ((x.length + y.length : Nat) : Int)] (by kernel_rfl) fun w2 h2 => ?_
    refine (growD_any (x.length + y.length) _ (by omega)).mono ?_
    rintro e v2 ⟨⟨A_g, c_g, rfl, hR⟩, hb2⟩
    refine ⟨hb2, [.slice A_g 0 c_g], _, _, rfl, by kernel_rfl, by kernel_rfl, hR.bl, fun g2 => ?_⟩
    have G0 := Room.gr (k := Sx.kD) h2 hR (by decide)
    replace F_s := F_s.mv g2.mv; replace F_x := F_x.mv g2.mv; replace F_y := F_y.mv g2.mv
    clear h2 hb2 g2
    refine sat_prim (v := .int .i64 2) (by kernel_rfl) ?_
    refine sat_loop (fun Kn vs W => (∃ A c, (vs = [.int .i64 0, .slice A 0 c] ∧ Kn = 2) ∧ Sx.Gr Sx.kD w 30 W (.slice A 0 c) []) ∨ (∃ A c, (vs = [.int .i64 1, .slice A x.length c] ∧ Kn = 1) ∧ Sx.Gr Sx.kD w 30 W (.slice A x.length c) x) ∨ (∃ A c, (vs = [.int .i64 2, .slice A (x ++ y).length c] ∧ Kn = 0) ∧ Sx.Gr Sx.kD w 30 W (.slice A (x ++ y).length c) (x ++ y))) [.int .i64 0, .slice A_g 0 c_g] (by kernel_rfl) (fun w1 h1 => ⟨2, .inl ⟨_, _, ⟨rfl, rfl⟩, G0.le h1⟩⟩) ?_
    rintro Kn vs w3 h3 (⟨A_o, c_o, ⟨rfl, rfl⟩, G_o⟩ | ⟨A_o, c_o, ⟨rfl, rfl⟩, G_o⟩ | ⟨A_o, c_o, ⟨rfl, rfl⟩, G_o⟩)
    · replace F_s := F_s.mv h3.mv; replace F_x := F_x.mv h3.mv; replace F_y := F_y.mv h3.mv
      clear h3
      refine sat_prim (v := .bool true) (by kernel_rfl) ?_
      refine sat_true (by kernel_rfl) ?_
      refine sat_idx (A := A_s) (c := c_s) (kk := .i64) 0 (by kernel_rfl) (by kernel_rfl) (by decide) F_s.addr fun g4 o4 e4 => ?_
      refine sat_elc (d := 0) F_s e4 (show [((some (⟨gx, ox, none⟩ : Addr)), x.length, c_x), ((some (⟨gy, oy, none⟩ : Addr)), y.length, c_y)][0]? = some ((some (⟨gx, ox, none⟩ : Addr)), x.length, c_x) from rfl) rfl (by kernel_rfl) (by kernel_rfl) ?_
      rintro _ rfl
      refine ⟨_, rfl, ?_⟩
      refine sat_app (.slice A_o 0 c_o) (.slice (some (⟨gx, ox, none⟩ : Addr)) x.length c_x) (by kernel_rfl) (by kernel_rfl) fun w5 h5 => ?_
      refine (G_o.le h5).app (l' := x) (F_x.mv h5.mv) (by simp only [List.length_nil, maxLen]; omega) (by simp only [List.length_nil]; omega) fun A_G1 c_G1 v5 a5 G1 => ?_
      replace F_s := F_s.mv h5.mv; replace F_x := F_x.mv h5.mv; replace F_y := F_y.mv h5.mv
      replace F_s := F_s.mv a5.toLf.mv; replace F_x := F_x.mv a5.toLf.mv; replace F_y := F_y.mv a5.toLf.mv
      clear h5 a5 G_o
      refine sat_prim (v := .int .i64 1) (by kernel_rfl) ?_
      exact sat_back [.int .i64 1, .slice A_G1 ([] ++ x).length c_G1] (by kernel_rfl) fun w9 h9 => ⟨1, by decide, .inr (.inl ⟨_, _, ⟨rfl, rfl⟩, G1.le h9⟩)⟩
    · replace F_s := F_s.mv h3.mv; replace F_x := F_x.mv h3.mv; replace F_y := F_y.mv h3.mv
      clear h3
      refine sat_prim (v := .bool true) (by kernel_rfl) ?_
      refine sat_true (by kernel_rfl) ?_
      refine sat_idx (A := A_s) (c := c_s) (kk := .i64) 1 (by kernel_rfl) (by kernel_rfl) (by decide) F_s.addr fun g4 o4 e4 => ?_
      refine sat_elc (d := 0) F_s e4 (show [((some (⟨gx, ox, none⟩ : Addr)), x.length, c_x), ((some (⟨gy, oy, none⟩ : Addr)), y.length, c_y)][1]? = some ((some (⟨gy, oy, none⟩ : Addr)), y.length, c_y) from rfl) rfl (by kernel_rfl) (by kernel_rfl) ?_
      rintro _ rfl
      refine ⟨_, rfl, ?_⟩
      refine sat_app (.slice A_o x.length c_o) (.slice (some (⟨gy, oy, none⟩ : Addr)) y.length c_y) (by kernel_rfl) (by kernel_rfl) fun w5 h5 => ?_
      refine (G_o.le h5).app (l' := y) (F_y.mv h5.mv) (by simp only [maxLen]; omega) (by omega) fun A_G1 c_G1 v5 a5 G1 => ?_
      replace F_s := F_s.mv h5.mv; replace F_x := F_x.mv h5.mv; replace F_y := F_y.mv h5.mv
      replace F_s := F_s.mv a5.toLf.mv; replace F_x := F_x.mv a5.toLf.mv; replace F_y := F_y.mv a5.toLf.mv
      clear h5 a5 G_o
      refine sat_prim (v := .int .i64 2) (by kernel_rfl) ?_
      exact sat_back [.int .i64 2, .slice A_G1 (x ++ y).length c_G1] (by kernel_rfl) fun w9 h9 => ⟨0, by decide, .inr (.inr ⟨_, _, ⟨rfl, rfl⟩, G1.le h9⟩)⟩
    · replace F_s := F_s.mv h3.mv; replace F_x := F_x.mv h3.mv; replace F_y := F_y.mv h3.mv
      clear h3
      refine sat_prim (v := .bool false) (by kernel_rfl) ?_
      refine sat_false (by kernel_rfl) ?_
      exact sat_ret (.slice A_o (x ++ y).length c_o) (by kernel_rfl) fun w9 h9 => ⟨_, _, rfl, (G_o.le h9).done fun h => h⟩

def tr_concIval : Sx.Tree := .prim .len [.lf 0] (.loop 0 [.num .i64 0, .num .i64 0] (.prim (.bin .lss) [.lf 2, .lf 1] (.ite (.lf 4) (.prim (.idx 1) [.lf 0, .lf 2] (.load 22 (.lf 5) .one (.prim .len [.lf 6] (.prim (.bin .add) [.lf 3, .lf 7] (.prim (.bin .lss) [.lf 8, .num .i64 0] (.ite (.lf 9) .dead (.prim (.bin .add) [.lf 2, .num .i64 1] (.back 0 [.lf 10, .lf 8])))))))) (.call 114 [.one .nil, .one (.lf 3)] .one (.prim .len [.lf 0] (.loop 0 [.num .i64 0, .lf 5] (.prim (.bin .lss) [.lf 7, .lf 6] (.ite (.lf 9) (.prim (.idx 1) [.lf 0, .lf 7] (.load 22 (.lf 10) .one (.app 49 6 80 (.lf 8) (.lf 11) (.prim (.bin .add) [.lf 7, .num .i64 1] (.back 0 [.lf 13, .lf 12]))))) (.ret (.one (.lf 8)))))))))))
theorem tr_concIval_eq : Sx.treeAt Tryz.prog 93 [] [] [(false, 1)] = some tr_concIval := by kernel_rfl

set_option maxRecDepth 100000 in
theorem concIval_any (A_s : Option Addr) (c_s : Nat) (A : Option Addr) (c_x : Nat) (B : Option Addr) (c_y : Nat) (x y : List Iv) (w : World) (h_s : Sx.Rows Sx.kR (fun _ => True) w A_s 2 c_s [(A, x.length, c_x), (B, y.length, c_y)]) (h_x : Sx.Rows Sx.kI (fun _ => True) w A x.length c_x x) (h_y : Sx.Rows Sx.kI (fun _ => True) w B y.length c_y y) (hx : 0 < x.length) (hy : 0 < y.length) (hl : x.length + y.length ≤ 1000) :
    Calls Tryz.prog 93 #[.slice A_s 2 c_s] w fun e w' => RowRet Sx.kI w w' e (x ++ y) ∧ Below w.heap.size w w' := by
  obtain ⟨gx, ox, rfl⟩ := h_x.addr hx
  obtain ⟨gy, oy, rfl⟩ := h_y.addr hy
  have F_s := h_s.start
  have F_x := h_x.start
  have F_y := h_y.start
  clear h_s h_x h_y
  refine (Sx.runA [] [] (ls := [.slice A_s 2 c_s]) (shs := [(false, 1)]) (R := fun v w' => RowRet Sx.kI w w' (.returned v) (x ++ y)) tr_concIval_eq rfl (by decide) (fun q h => by cases h) ?_).mono (fun e w' ⟨v, he, hv, hb⟩ => ⟨by rw [he]; exact hv, hb⟩)
  unfold tr_concIval
  refine sat_prim (v := .int .i64 2) (by kernel_rfl) ?_
  refine sat_loop (fun Kn vs W => (vs = [.int .i64 0, .int .i64 0] ∧ Kn = 2) ∨ (vs = [.int .i64 1, .int .i64 ((x.length : Nat) : Int)] ∧ Kn = 1) ∨ (vs = [.int .i64 2, .int .i64 ((x.length + y.length : Nat) : Int)] ∧ Kn = 0)) [.int .i64 0, .int .i64 0] (by kernel_rfl) (fun w1 h1 => ⟨2, .inl ⟨rfl, rfl⟩⟩) ?_
  rintro Kn vs w1 h1 (⟨rfl, rfl⟩ | ⟨rfl, rfl⟩ | ⟨rfl, rfl⟩)
  · replace F_s := F_s.mv h1.mv; replace F_x := F_x.mv h1.mv; replace F_y := F_y.mv h1.mv
    clear h1
    refine sat_prim (v := .bool true) (by kernel_rfl) ?_
    refine sat_true (by kernel_rfl) ?_
    refine sat_idx (A := A_s) (c := c_s) (kk := .i64) 0 (by kernel_rfl) (by kernel_rfl) (by decide) F_s.addr fun g2 o2 e2 => ?_
    refine sat_elc (d := 0) F_s e2 (show [((some (⟨gx, ox, none⟩ : Addr)), x.length, c_x), ((some (⟨gy, oy, none⟩ : Addr)), y.length, c_y)][0]? = some ((some (⟨gx, ox, none⟩ : Addr)), x.length, c_x) from rfl) rfl (by kernel_rfl) (by kernel_rfl) ?_
    rintro _ rfl
    refine ⟨_, rfl, ?_⟩
    refine sat_prim (v := .int .i64 ((x.length : Nat) : Int)) (by kernel_rfl) ?_
    refine sat_prim (v := .int .i64 ((x.length : Nat) : Int)) (Eq.trans (b := some (.int .i64 (IntKind.i64.wrap (0 + ((x.length : Nat) : Int))))) (by kernel_rfl) (by rw [IntWalk.i64_in _ (by omega)]; congr 2; omega)) ?_
    refine sat_prim (v := .bool (decide ((((x.length : Nat) : Int) : Int) < 0))) (by kernel_rfl) ?_
    refine sat_falseP (b := (decide ((((x.length : Nat) : Int) : Int) < 0))) (by kernel_rfl) (decide_eq_false (by omega)) ?_
    refine sat_prim (v := .int .i64 1) (by kernel_rfl) ?_
    exact sat_back [.int .i64 1, .int .i64 ((x.length : Nat) : Int)] (by kernel_rfl) fun w9 h9 => ⟨1, by decide, .inr (.inl ⟨rfl, rfl⟩)⟩
  · replace F_s := F_s.mv h1.mv; replace F_x := F_x.mv h1.mv; replace F_y := F_y.mv h1.mv
    clear h1
    refine sat_prim (v := .bool true) (by kernel_rfl) ?_
    refine sat_true (by kernel_rfl) ?_
    refine sat_idx (A := A_s) (c := c_s) (kk := .i64) 1 (by kernel_rfl) (by kernel_rfl) (by decide) F_s.addr fun g2 o2 e2 => ?_
    refine sat_elc (d := 0) F_s e2 (show [((some (⟨gx, ox, none⟩ : Addr)), x.length, c_x), ((some (⟨gy, oy, none⟩ : Addr)), y.length, c_y)][1]? = some ((some (⟨gy, oy, none⟩ : Addr)), y.length, c_y) from rfl) rfl (by kernel_rfl) (by kernel_rfl) ?_
    rintro _ rfl
    refine ⟨_, rfl, ?_⟩
    refine sat_prim (v := .int .i64 ((y.length : Nat) : Int)) (by kernel_rfl) ?_
    refine sat_prim (v := .int .i64 ((x.length + y.length : Nat) : Int)) (Eq.trans (b := some (.int .i64 (IntKind.i64.wrap (((x.length : Nat) : Int) + ((y.length : Nat) : Int))))) (by kernel_rfl) (by rw [IntWalk.i64_in _ (by omega)]; congr 2)) ?_
    refine sat_prim (v := .bool (decide ((((x.length + y.length : Nat) : Int) : Int) < 0))) (by kernel_rfl) ?_
    refine sat_falseP (b := (decide ((((x.length + y.length : Nat) : Int) : Int) < 0))) (by kernel_rfl) (decide_eq_false (by omega)) ?_
    refine sat_prim (v := .int .i64 2) (by kernel_rfl) ?_
    exact sat_back [.int .i64 2, .int .i64 ((x.length + y.length : Nat) : Int)] (by kernel_rfl) fun w9 h9 => ⟨0, by decide, .inr (.inr ⟨rfl, rfl⟩)⟩
  · replace F_s := F_s.mv h1.mv; replace F_x := F_x.mv h1.mv; replace F_y := F_y.mv h1.mv
    clear h1
    refine sat_prim (v := .bool false) (by kernel_rfl) ?_
    refine sat_false (by kernel_rfl) ?_
    refine sat_callB #[.slice none 0 0, .int .i64 ((x.length + y.length : Nat) : Int)] (by kernel_rfl) fun w2 h2 => ?_
    refine (growI_any (x.length + y.length) _ (by omega)).mono ?_
    rintro e v2 ⟨⟨A_g, c_g, rfl, hR⟩, hb2⟩
    refine ⟨hb2, [.slice A_g 0 c_g], _, _, rfl, by kernel_rfl, by kernel_rfl, hR.bl, fun g2 => ?_⟩
    have G0 := Room.gr (k := Sx.kI) h2 hR (by decide)
    replace F_s := F_s.mv g2.mv; replace F_x := F_x.mv g2.mv; replace F_y := F_y.mv g2.mv
    clear h2 hb2 g2
    refine sat_prim (v := .int .i64 2) (by kernel_rfl) ?_
    refine sat_loop (fun Kn vs W => (∃ A c, (vs = [.int .i64 0, .slice A 0 c] ∧ Kn = 2) ∧ Sx.Gr Sx.kI w 49 W (.slice A 0 c) []) ∨ (∃ A c, (vs = [.int .i64 1, .slice A x.length c] ∧ Kn = 1) ∧ Sx.Gr Sx.kI w 49 W (.slice A x.length c) x) ∨ (∃ A c, (vs = [.int .i64 2, .slice A (x ++ y).length c] ∧ Kn = 0) ∧ Sx.Gr Sx.kI w 49 W (.slice A (x ++ y).length c) (x ++ y))) [.int .i64 0, .slice A_g 0 c_g] (by kernel_rfl) (fun w1 h1 => ⟨2, .inl ⟨_, _, ⟨rfl, rfl⟩, G0.le h1⟩⟩) ?_
    rintro Kn vs w3 h3 (⟨A_o, c_o, ⟨rfl, rfl⟩, G_o⟩ | ⟨A_o, c_o, ⟨rfl, rfl⟩, G_o⟩ | ⟨A_o, c_o, ⟨rfl, rfl⟩, G_o⟩)
    · replace F_s := F_s.mv h3.mv; replace F_x := F_x.mv h3.mv; replace F_y := F_y.mv h3.mv
      clear h3
      refine sat_prim (v := .bool true) (by kernel_rfl) ?_
      refine sat_true (by kernel_rfl) ?_
      refine sat_idx (A := A_s) (c := c_s) (kk := .i64) 0 (by kernel_rfl) (by kernel_rfl) (by decide) F_s.addr fun g4 o4 e4 => ?_
      refine sat_elc (d := 0) F_s e4 (show [((some (⟨gx, ox, none⟩ : Addr)), x.length, c_x), ((some (⟨gy, oy, none⟩ : Addr)), y.length, c_y)][0]? = some ((some (⟨gx, ox, none⟩ : Addr)), x.length, c_x) from rfl) rfl (by kernel_rfl) (by kernel_rfl) ?_
      rintro _ rfl
      refine ⟨_, rfl, ?_⟩
      refine sat_app (.slice A_o 0 c_o) (.slice (some (⟨gx, ox, none⟩ : Addr)) x.length c_x) (by kernel_rfl) (by kernel_rfl) fun w5 h5 => ?_
      refine (G_o.le h5).app (l' := x) (F_x.mv h5.mv) (by simp only [List.length_nil, maxLen]; omega) (by simp only [List.length_nil]; omega) fun A_G1 c_G1 v5 a5 G1 => ?_
      replace F_s := F_s.mv h5.mv; replace F_x := F_x.mv h5.mv; replace F_y := F_y.mv h5.mv
      replace F_s := F_s.mv a5.toLf.mv; replace F_x := F_x.mv a5.toLf.mv; replace F_y := F_y.mv a5.toLf.mv
      clear h5 a5 G_o
      refine sat_prim (v := .int .i64 1) (by kernel_rfl) ?_
      exact sat_back [.int .i64 1, .slice A_G1 ([] ++ x).length c_G1] (by kernel_rfl) fun w9 h9 => ⟨1, by decide, .inr (.inl ⟨_, _, ⟨rfl, rfl⟩, G1.le h9⟩)⟩
    · replace F_s := F_s.mv h3.mv; replace F_x := F_x.mv h3.mv; replace F_y := F_y.mv h3.mv
      clear h3
      refine sat_prim (v := .bool true) (by kernel_rfl) ?_
      refine sat_true (by kernel_rfl) ?_
      refine sat_idx (A := A_s) (c := c_s) (kk := .i64) 1 (by kernel_rfl) (by kernel_rfl) (by decide) F_s.addr fun g4 o4 e4 => ?_
      refine sat_elc (d := 0) F_s e4 (show [((some (⟨gx, ox, none⟩ : Addr)), x.length, c_x), ((some (⟨gy, oy, none⟩ : Addr)), y.length, c_y)][1]? = some ((some (⟨gy, oy, none⟩ : Addr)), y.length, c_y) from rfl) rfl (by kernel_rfl) (by kernel_rfl) ?_
      rintro _ rfl
      refine ⟨_, rfl, ?_⟩
      refine sat_app (.slice A_o x.length c_o) (.slice (some (⟨gy, oy, none⟩ : Addr)) y.length c_y) (by kernel_rfl) (by kernel_rfl) fun w5 h5 => ?_
      refine (G_o.le h5).app (l' := y) (F_y.mv h5.mv) (by simp only [maxLen]; omega) (by omega) fun A_G1 c_G1 v5 a5 G1 => ?_
      replace F_s := F_s.mv h5.mv; replace F_x := F_x.mv h5.mv; replace F_y := F_y.mv h5.mv
      replace F_s := F_s.mv a5.toLf.mv; replace F_x := F_x.mv a5.toLf.mv; replace F_y := F_y.mv a5.toLf.mv
      clear h5 a5 G_o
      refine sat_prim (v := .int .i64 2) (by kernel_rfl) ?_
      exact sat_back [.int .i64 2, .slice A_G1 (x ++ y).length c_G1] (by kernel_rfl) fun w9 h9 => ⟨0, by decide, .inr (.inr ⟨_, _, ⟨rfl, rfl⟩, G1.le h9⟩)⟩
    · replace F_s := F_s.mv h3.mv; replace F_x := F_x.mv h3.mv; replace F_y := F_y.mv h3.mv
      clear h3
      refine sat_prim (v := .bool false) (by kernel_rfl) ?_
      refine sat_false (by kernel_rfl) ?_
      exact sat_ret (.slice A_o (x ++ y).length c_o) (by kernel_rfl) fun w9 h9 => ⟨_, _, rfl, (G_o.le h9).done fun h => h⟩

end Go.Proofs.YtbpfnooloemieaaGreatDoor
