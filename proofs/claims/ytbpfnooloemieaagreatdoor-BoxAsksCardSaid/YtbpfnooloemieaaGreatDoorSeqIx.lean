/- Rows of intervals, tubes, as data. Rows of structs that a call builds by appending, and what it then returns. -/
import Derived.Test.YtbpfnooloemieaaGreatDoorSxGx
import Derived.Test.YtbpfnooloemieaaGreatDoorIvAx
namespace Go.Proofs.YtbpfnooloemieaaGreatDoor
open Go.RowKit Pl
namespace Sx
/-- Intervals as elements. -/
def kI : Kind Iv where
  sz := 6
  El _ w cs a := ∃ A n c B m d, cs = [.bool a.lo.neg, .slice A n c, .int .i64 a.lo.e, .bool a.hi.neg, .slice B m d, .int .i64 a.hi.e] ∧ RdD w (.agg #[.bool a.lo.neg, .slice A n c, .int .i64 a.lo.e]) a.lo ∧ RdD w (.agg #[.bool a.hi.neg, .slice B m d, .int .i64 a.hi.e]) a.hi
  len := by rintro _ _ _ _ ⟨A, n, c, B, m, d, rfl, _⟩; rfl
  mv := by
    rintro _ _ _ _ _ _ m ⟨A, n, c, B, k, d, rfl, ⟨A', n', c', h1, h2, h3⟩, ⟨B', k', d', i1, i2, i3⟩⟩
    exact ⟨A, n, c, B, k, d, rfl, ⟨A', n', c', h1, m.rd (by decide) h2, h3⟩, ⟨B', k', d', i1, m.rd (by decide) i2, i3⟩⟩
  okc := by
    rintro _ _ _ _ ⟨A, n, c, B, m, d, rfl, _⟩ u hu
    simp only [List.mem_cons, List.not_mem_nil, or_false] at hu
    rcases hu with rfl | rfl | rfl | rfl | rfl | rfl
    · exact okB _
    · exact okS _ _ _
    · exact okI _
    · exact okB _
    · exact okS _ _ _
    · exact okI _
end Sx
namespace Sx
end Sx
end Go.Proofs.YtbpfnooloemieaaGreatDoor
namespace Go.Proofs.YtbpfnooloemieaaGreatDoor
open Go.RowKit Pl
namespace Sx
theorem addr_at (g o k : Nat) : (⟨g, o, none⟩ : Addr).add k = ⟨g, o + k, none⟩ := by unfold Addr.add; split <;> simp_all
variable {α : Type} {k : Kind α}
/-- A row that reads as a list: its cells, one behind the other. -/
theorem Rows.flat {ok : Nat → Prop} {w : World} {g off n c : Nat} {l : List α} (h : Rows k ok w (some ⟨g, off, none⟩) n c l) :
    ∃ news : List Value, news.length = n * k.sz ∧ (∀ j u, news[j]? = some u → w.cell? ⟨g, off + j, none⟩ = some u) ∧ ∀ (i : Nat) x, l[i]? = some x → k.El ok w ((news.drop (i * k.sz)).take k.sz) x := by
  have hl := h.len
  by_cases hn : 0 < n
  · obtain ⟨g', off', hA, _, _, h4⟩ := h.at_ hn
    injection hA with hA
    injection hA with e1 e2
    subst e1 e2
    have key : ∀ m, m ≤ n → ∃ news : List Value, news.length = m * k.sz ∧ (∀ j u, news[j]? = some u → w.cell? ⟨g, off + j, none⟩ = some u) ∧ ∀ (i : Nat) x, i < m → l[i]? = some x → k.El ok w ((news.drop (i * k.sz)).take k.sz) x := by
      intro m
      induction m with
      | zero => exact fun _ => ⟨[], by simp, fun j u hu => by simp at hu, fun i x hi => absurd hi (by omega)⟩
      | succ m ih =>
        intro hm
        obtain ⟨news, e1, e2, e3⟩ := ih (by omega)
        obtain ⟨y, hy⟩ : ∃ y, l[m]? = some y := ⟨_, List.getElem?_eq_getElem (by omega)⟩
        obtain ⟨cs, f1, f2⟩ := h4 m y hy
        have hcl := k.len f1
        refine ⟨news ++ cs, by rw [List.length_append, e1, hcl, Nat.add_mul, Nat.one_mul], fun j u hu => ?_, fun i x hi hx => ?_⟩
        · rw [List.getElem?_append] at hu
          split at hu
          · exact e2 j u hu
          · have := f2 _ u hu
            rw [show off + m * k.sz + (j - news.length) = off + j by omega] at this
            exact this
        · by_cases hi2 : i < m
          · have hmul : i * k.sz + k.sz ≤ m * k.sz := by rw [← Nat.succ_mul]; exact Nat.mul_le_mul_right _ hi2
            rw [List.drop_append_of_le_length (by omega), List.take_append_of_le_length (by rw [List.length_drop]; omega)]
            exact e3 i x hi2 hx
          · obtain rfl : i = m := by omega
            rw [hy] at hx
            injection hx with hx
            subst hx
            rw [← e1, List.drop_left, List.take_of_length_le (by omega)]
            exact f1
    obtain ⟨news, e1, e2, e3⟩ := key n (Nat.le_refl _)
    exact ⟨news, e1, e2, fun i x hx => e3 i x (by have := (List.getElem?_eq_some_iff.1 hx).1; omega) hx⟩
  · obtain rfl : n = 0 := by omega
    obtain rfl : l = [] := List.eq_nil_of_length_eq_zero hl
    exact ⟨[], by simp, fun j u hu => by simp at hu, fun i x hx => by simp at hx⟩
theorem elts_ok {ok : Nat → Prop} {w : World} {l : List α} {xs : List Value} (hl : xs.length = l.length * k.sz) (hE : ∀ (i : Nat) x, l[i]? = some x → k.El ok w ((xs.drop (i * k.sz)).take k.sz) x) (hs : 0 < k.sz) : ∀ u ∈ xs, LeafOk u := by
  intro u hu
  obtain ⟨j, hj, rfl⟩ := List.mem_iff_getElem.1 hu
  have hi : j / k.sz < l.length := Nat.div_lt_of_lt_mul (by rw [Nat.mul_comm]; omega)
  refine k.okc (hE (j / k.sz) _ (List.getElem?_eq_getElem hi)) _ ?_
  have hdm := Nat.div_add_mod j k.sz
  have hlt := Nat.mod_lt j hs
  rw [Nat.mul_comm] at hdm
  refine List.mem_iff_getElem?.2 ⟨j % k.sz, ?_⟩
  rw [List.getElem?_take, if_pos hlt, List.getElem?_drop, hdm, List.getElem?_eq_getElem hj]
/-- What a callee has made, later on. -/
theorem Mv.later {w0 : World} {w w1 w3 : OW} {w2 : World} (h1 : Lf w0 w w1) (h : Lf w0 ⟨w2, w1.own, w1.bld⟩ w3) : Mv w2 w3.toWorld (fun g => w1.heap.size ≤ g) (fun g => w0.heap.size ≤ g) :=
  ⟨h.rd, h.sz, fun g hg ho => ⟨h.keep g hg (fun e => absurd (h1.wf.own g e).2 (by omega)) (fun e => absurd (h1.wf.bld g e).2.1 (by omega)), by have := h1.b.size; omega⟩⟩
/-- A row that the call builds reads as a list. -/
structure Gr (k : Kind α) (w0 : World) (e : TypeId) (w : OW) (s : Value) (l : List α) : Prop where
  pos : 0 < k.sz
  row : ∃ xs, OR w0 e k.sz w s l.length xs ∧ ∀ (i : Nat) x, l[i]? = some x → k.El (NB w) w.toWorld ((xs.drop (i * k.sz)).take k.sz) x
theorem Gr.nil (hk : 0 < k.sz) (w0 : World) (e : TypeId) (w : OW) : Gr k w0 e w (.slice none 0 0) [] := ⟨hk, [], OR.nil _ _ _ _, fun i x hx => by simp at hx⟩
theorem Gr.le {w0 : World} {e : TypeId} {w w' : OW} {s : Value} {l : List α} (h : Gr k w0 e w s l) (hl : Le w0 w w') : Gr k w0 e w' s l := by
  obtain ⟨hk, xs, h1, h2⟩ := h
  exact ⟨hk, xs, h1.le hl, fun i x hx => k.mv hl.toLf.mv (h2 i x hx)⟩
theorem Gr.len {w0 : World} {e : TypeId} {w : OW} {s : Value} {l : List α} (h : Gr k w0 e w s l) : ∃ A c, s = .slice A l.length c := by
  obtain ⟨_, xs, h1, _⟩ := h
  rcases h1.row.2 with ⟨rfl, hn⟩ | ⟨g, cap, cur, rfl, _⟩
  · exact ⟨none, 0, by rw [hn]⟩
  · exact ⟨_, _, rfl⟩
/-- What is appended: a row that reads as a list. -/
theorem Gr.app {w0 : World} {e : TypeId} {by' : Nat} {w : OW} {s : Value} {l l' : List α} (h : Gr k w0 e w s l) {g off c : Nat} (hR : Rows k (NB w) w.toWorld (some ⟨g, off, none⟩) l'.length c l') (h1 : l.length + l'.length ≤ maxLen) (h2 : (l.length + l'.length) * by' ≤ 140737488355328)
    {K : Value → OW → Prop} (hK : ∀ A c' w', App w0 w w' s (.slice A (l ++ l').length c') → Gr k w0 e w' (.slice A (l ++ l').length c') (l ++ l') → K (.slice A (l ++ l').length c') w') :
    AppOk w0 e k.sz by' s (.slice (some ⟨g, off, none⟩) l'.length c) w K := by
  obtain ⟨hk, xs, i1, i2⟩ := h
  obtain ⟨news, e1, e2, e3⟩ := hR.flat
  refine ⟨l.length, xs, ⟨g, off, none⟩, l'.length, c, news, i1, rfl, e1, fun j u hu => ?_, elts_ok e1 e3 hk, h1, h2, fun s' w' hA hO => ?_⟩
  · rw [addr_at]
    exact e2 j u hu
  · have hx := i1.row.1
    have hG : Gr k w0 e w' s' (l ++ l') := by
      refine ⟨hk, xs ++ news, by rw [List.length_append]; exact hO, fun i x hi => ?_⟩
      refine k.mv hA.toLf.mv ?_
      rw [List.getElem?_append] at hi
      split at hi
      · rename_i hlt
        have hmul : i * k.sz + k.sz ≤ l.length * k.sz := by rw [← Nat.succ_mul]; exact Nat.mul_le_mul_right _ hlt
        rw [List.drop_append_of_le_length (by omega), List.take_append_of_le_length (by rw [List.length_drop]; omega)]
        exact i2 i x hi
      · rename_i hge
        have := e3 _ x hi
        have hsub : i * k.sz = xs.length + (i - l.length) * k.sz := by rw [hx, ← Nat.add_mul]; congr 1; omega
        rw [hsub, List.drop_append]
        rw [show List.drop (xs.length + (i - l.length) * k.sz) xs = [] from List.drop_of_length_le (by omega), List.nil_append, Nat.add_sub_cancel_left]
        exact this
    obtain ⟨A, c', rfl⟩ := hG.len
    exact hK A c' w' hA hG
/-- It is given back: a row of the call's own making. -/
theorem Gr.done {w0 : World} {e : TypeId} {w : OW} {A : Option Addr} {n c : Nat} {l : List α} (h : Gr k w0 e w (.slice A n c) l) (kok : ∀ {w' cs x}, k.El (NB w) w' cs x → k.El (fun g => w0.heap.size ≤ g) w' cs x) : Rows k (fun g => w0.heap.size ≤ g) w.toWorld A n c l := by
  obtain ⟨hk, xs, i1, i2⟩ := h
  rcases i1.row.2 with ⟨hv, hn⟩ | ⟨g, cap, cur, hv, hb, hg, hcap, hmax, _, _⟩
  · injection hv with v1 v2 v3
    subst v1 v2 v3
    obtain rfl : l = [] := List.eq_nil_of_length_eq_zero hn
    exact Rows.nil _ _ _
  · injection hv with v1 v2 v3
    subst v1 v2 v3
    refine ⟨rfl, hcap, hmax, fun ad h _ => by injection h with h; subst h; rfl, fun hn => ⟨g, 0, rfl, ?_, hb, fun i x hx => ⟨_, kok (i2 i x hx), fun j u hu => ?_⟩⟩⟩
    · exact (Array.getElem?_eq_some_iff.1 hg).1
    · rw [List.getElem?_take] at hu
      split at hu
      · rw [List.getElem?_drop] at hu
        have := i1.row.cells (g := g) rfl _ _ hu
        rw [addr_at] at this
        rw [Nat.zero_add] at this ⊢
        exact this
      · cases hu
end Sx
end Go.Proofs.YtbpfnooloemieaaGreatDoor
