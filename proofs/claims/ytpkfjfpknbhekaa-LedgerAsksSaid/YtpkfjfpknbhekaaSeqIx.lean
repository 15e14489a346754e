/- Rows of intervals, tubes, as data. Rows of structs that a call builds by appending, and what it then returns. slices.Grow of nothing: a row with room, of the call's own making. A writer: a variable that holds a row of bytes, to which functions append through a pointer. -/
import Derived.Test.YtpkfjfpknbhekaaSxGx
import Derived.Test.YtpkfjfpknbhekaaIvAx
namespace Go.Proofs.Ytpkfjfpknbhekaa
open Go.RowKit Pl
namespace Sx
/-- Intervals as elements. -/
def kI : Kind Iv where
  sz := 6
  El _ w cs a := ∃ A n c B m d, cs = [.bool a.lo.neg, .slice A n c, .int .i64 a.lo.e, .bool a.hi.neg, .slice B m d, .int .i64 a.hi.e] ∧ RdD w (.agg #[.bool a.lo.neg, .slice A n c, .int .i64 a.lo.e]) a.lo ∧ RdD w (.agg #[.bool a.hi.neg, .slice B m d, .int .i64 a.hi.e]) a.hi
  len := by rintro _ _ _ _ ⟨A, n, c, B, m, d, rfl, _⟩; rfl
  mv := by
    rintro _ _ _ _ _ _ m ⟨A, n, c, B, k, d, rfl, ⟨A', n', c', h1, h2, h3⟩, ⟨B', k', d', i1, i2, i3⟩⟩
    exact ⟨A, n, c, B, k, d, rfl, ⟨A', n', c', h1, m.rd (by decide) h2, h3⟩, ⟨B', k', d', i1, m.rd (by decide) i2, i3⟩⟩
  okc := by
    rintro _ _ _ _ ⟨A, n, c, B, m, d, rfl, _⟩ u hu
    simp only [List.mem_cons, List.not_mem_nil, or_false] at hu
    rcases hu with rfl | rfl | rfl | rfl | rfl | rfl
    · exact okB _
    · exact okS _ _ _
    · exact okI _
    · exact okB _
    · exact okS _ _ _
    · exact okI _
end Sx
/-- A tube: its times, its intervals. -/
structure Tb where
  at_ : List Dy
  v : List Iv
namespace Sx
def kT : Kind Tb where
  sz := 2
  El ok w cs t := ∃ A n c B m d, cs = [.slice A n c, .slice B m d] ∧ Rows kD ok w A n c t.at_ ∧ Rows kI ok w B m d t.v
  len := by rintro _ _ _ _ ⟨A, n, c, B, m, d, rfl, _⟩; rfl
  mv := by
    rintro _ _ _ _ _ _ m ⟨A, n, c, B, k, d, rfl, h, i⟩
    exact ⟨A, n, c, B, k, d, rfl, h.mv m, i.mv m⟩
  okc := by
    rintro _ _ _ _ ⟨A, n, c, B, m, d, rfl, _⟩ u hu
    simp only [List.mem_cons, List.not_mem_nil, or_false] at hu
    rcases hu with rfl | rfl
    · exact okS _ _ _
    · exact okS _ _ _
end Sx
end Go.Proofs.Ytpkfjfpknbhekaa
namespace Go.Proofs.Ytpkfjfpknbhekaa
open Go.RowKit Pl
namespace Sx
theorem addr_at (g o k : Nat) : (⟨g, o, none⟩ : Addr).add k = ⟨g, o + k, none⟩ := by unfold Addr.add; split <;> simp_all
variable {α : Type} {k : Kind α}
/-- A row that reads as a list: its cells, one behind the other. -/
theorem Rows.flat {ok : Nat → Prop} {w : World} {g off n c : Nat} {l : List α} (h : Rows k ok w (some ⟨g, off, none⟩) n c l) :
    ∃ news : List Value, news.length = n * k.sz ∧ (∀ j u, news[j]? = some u → w.cell? ⟨g, off + j, none⟩ = some u) ∧ ∀ (i : Nat) x, l[i]? = some x → k.El ok w ((news.drop (i * k.sz)).take k.sz) x := by
  have hl := h.len
  by_cases hn : 0 < n
  · obtain ⟨g', off', hA, _, _, h4⟩ := h.at_ hn
    injection hA with hA
    injection hA with e1 e2
    subst e1 e2
    have key : ∀ m, m ≤ n → ∃ news : List Value, news.length = m * k.sz ∧ (∀ j u, news[j]? = some u → w.cell? ⟨g, off + j, none⟩ = some u) ∧ ∀ (i : Nat) x, i < m → l[i]? = some x → k.El ok w ((news.drop (i * k.sz)).take k.sz) x := by
      intro m
      induction m with
      | zero => exact fun _ => ⟨[], by simp, fun j u hu => by simp at hu, fun i x hi => absurd hi (by omega)⟩
      | succ m ih =>
        intro hm
        obtain ⟨news, e1, e2, e3⟩ := ih (by omega)
        obtain ⟨y, hy⟩ : ∃ y, l[m]? = some y := ⟨_, List.getElem?_eq_getElem (by omega)⟩
        obtain ⟨cs, f1, f2⟩ := h4 m y hy
        have hcl := k.len f1
        refine ⟨news ++ cs, by rw [List.length_append, e1, hcl, Nat.add_mul, Nat.one_mul], fun j u hu => ?_, fun i x hi hx => ?_⟩
        · rw [List.getElem?_append] at hu
          split at hu
          · exact e2 j u hu
          · have := f2 _ u hu
            rw [show off + m * k.sz + (j - news.length) = off + j by omega] at this
            exact this
        · by_cases hi2 : i < m
          · have hmul : i * k.sz + k.sz ≤ m * k.sz := by rw [← Nat.succ_mul]; exact Nat.mul_le_mul_right _ hi2
            rw [List.drop_append_of_le_length (by omega), List.take_append_of_le_length (by rw [List.length_drop]; omega)]
            exact e3 i x hi2 hx
          · obtain rfl : i = m := by omega
            rw [hy] at hx
            injection hx with hx
            subst hx
            rw [← e1, List.drop_left, List.take_of_length_le (by omega)]
            exact f1
    obtain ⟨news, e1, e2, e3⟩ := key n (Nat.le_refl _)
    exact ⟨news, e1, e2, fun i x hx => e3 i x (by have := (List.getElem?_eq_some_iff.1 hx).1; omega) hx⟩
  · obtain rfl : n = 0 := by omega
    obtain rfl : l = [] := List.eq_nil_of_length_eq_zero hl
    exact ⟨[], by simp, fun j u hu => by simp at hu, fun i x hx => by simp at hx⟩
theorem elts_ok {ok : Nat → Prop} {w : World} {l : List α} {xs : List Value} (hl : xs.length = l.length * k.sz) (hE : ∀ (i : Nat) x, l[i]? = some x → k.El ok w ((xs.drop (i * k.sz)).take k.sz) x) (hs : 0 < k.sz) {w0 : Fr} (hn : w0.nk k.ik = true) : ∀ u ∈ xs, LeafN w0 u := by
  intro u hu
  suffices h : u.oneCell' = true ∧ ∀ K n, u = .int K n → K = k.ik from ⟨h.1, fun K n e => by rw [h.2 K n e]; exact hn⟩
  obtain ⟨j, hj, rfl⟩ := List.mem_iff_getElem.1 hu
  have hi : j / k.sz < l.length := Nat.div_lt_of_lt_mul (by rw [Nat.mul_comm]; omega)
  refine k.okc (hE (j / k.sz) _ (List.getElem?_eq_getElem hi)) _ ?_
  have hdm := Nat.div_add_mod j k.sz
  have hlt := Nat.mod_lt j hs
  rw [Nat.mul_comm] at hdm
  refine List.mem_iff_getElem?.2 ⟨j % k.sz, ?_⟩
  rw [List.getElem?_take, if_pos hlt, List.getElem?_drop, hdm, List.getElem?_eq_getElem hj]
/-- A row that the call builds reads as a list. -/
structure Gr (k : Kind α) (w0 : Fr) (e : TypeId) (w : OW) (s : Value) (l : List α) : Prop where
  pos : 0 < k.sz ∧ w0.nk k.ik = true ∧ w0.nk .u64 = false
  row : ∃ xs, OR w0 e k.sz w s l.length xs ∧ ∀ (i : Nat) x, l[i]? = some x → k.El (NB w) w.toWorld ((xs.drop (i * k.sz)).take k.sz) x
theorem Gr.nil (hk : 0 < k.sz) (w0 : Fr) (e : TypeId) (w : OW) (hn : w0.nk k.ik = true := by rfl) (hr : w0.nk .u64 = false := by rfl) : Gr k w0 e w (.slice none 0 0) [] := ⟨⟨hk, hn, hr⟩, [], OR.nil _ _ _ _, fun i x hx => by simp at hx⟩
theorem Gr.le {w0 : Fr} {e : TypeId} {w w' : OW} {s : Value} {l : List α} (h : Gr k w0 e w s l) (hl : Le w0 w w') : Gr k w0 e w' s l := by
  obtain ⟨hk, xs, h1, h2⟩ := h
  exact ⟨hk, xs, h1.le hl, fun i x hx => k.mv (hl.toLf.mv hk.2.2) (h2 i x hx)⟩
theorem Gr.len {w0 : Fr} {e : TypeId} {w : OW} {s : Value} {l : List α} (h : Gr k w0 e w s l) : ∃ A c, s = .slice A l.length c := by
  obtain ⟨_, xs, h1, _⟩ := h
  rcases h1.row.2 with ⟨rfl, hn⟩ | ⟨g, cap, cur, rfl, _⟩
  · exact ⟨none, 0, by rw [hn]⟩
  · exact ⟨_, _, rfl⟩
/-- What is appended: a row that reads as a list. -/
theorem Gr.app {w0 : Fr} {e : TypeId} {by' : Nat} {w : OW} {s : Value} {l l' : List α} (h : Gr k w0 e w s l) {g off c : Nat} (hR : Rows k (NB w) w.toWorld (some ⟨g, off, none⟩) l'.length c l') (h1 : l.length + l'.length ≤ maxLen) (h2 : (l.length + l'.length) * by' ≤ 140737488355328)
    {K : Value → OW → Prop} (hK : ∀ A c' w', App w0 w w' s (.slice A (l ++ l').length c') → Gr k w0 e w' (.slice A (l ++ l').length c') (l ++ l') → K (.slice A (l ++ l').length c') w') :
    AppOk w0 e k.sz by' s (.slice (some ⟨g, off, none⟩) l'.length c) w K := by
  obtain ⟨hk, xs, i1, i2⟩ := h
  obtain ⟨news, e1, e2, e3⟩ := hR.flat
  refine ⟨l.length, xs, some ⟨g, off, none⟩, l'.length, c, news, i1, rfl, e1, .inl ⟨_, rfl, fun j u hu => ?_⟩, elts_ok e1 e3 hk.1 hk.2.1, h1, h2, fun s' w' hA hO => ?_⟩
  · rw [addr_at]
    exact e2 j u hu
  · have hx := i1.row.1
    have hG : Gr k w0 e w' s' (l ++ l') := by
      refine ⟨hk, xs ++ news, by rw [List.length_append]; exact hO, fun i x hi => ?_⟩
      refine k.mv (hA.toLf.mv hk.2.2) ?_
      rw [List.getElem?_append] at hi
      split at hi
      · rename_i hlt
        have hmul : i * k.sz + k.sz ≤ l.length * k.sz := by rw [← Nat.succ_mul]; exact Nat.mul_le_mul_right _ hlt
        rw [List.drop_append_of_le_length (by omega), List.take_append_of_le_length (by rw [List.length_drop]; omega)]
        exact i2 i x hi
      · rename_i hge
        have := e3 _ x hi
        have hsub : i * k.sz = xs.length + (i - l.length) * k.sz := by rw [hx, ← Nat.add_mul]; congr 1; omega
        rw [hsub, List.drop_append]
        rw [show List.drop (xs.length + (i - l.length) * k.sz) xs = [] from List.drop_of_length_le (by omega), List.nil_append, Nat.add_sub_cancel_left]
        exact this
    obtain ⟨A, c', rfl⟩ := hG.len
    exact hK A c' w' hA hG
/-- What is appended may be nothing. -/
theorem Gr.appN {w0 : Fr} {e : TypeId} {by' : Nat} {w : OW} {s : Value} {l l' : List α} (h : Gr k w0 e w s l) {A : Option Addr} {c : Nat} (hR : Rows k (NB w) w.toWorld A l'.length c l') (h1 : l.length + l'.length ≤ maxLen) (h2 : (l.length + l'.length) * by' ≤ 140737488355328)
    {K : Value → OW → Prop} (hK : ∀ A c' w', App w0 w w' s (.slice A (l ++ l').length c') → Gr k w0 e w' (.slice A (l ++ l').length c') (l ++ l') → K (.slice A (l ++ l').length c') w') :
    AppOk w0 e k.sz by' s (.slice A l'.length c) w K := by
  rcases Nat.eq_zero_or_pos l'.length with hl | hn
  · obtain rfl : l' = [] := List.eq_nil_of_length_eq_zero hl
    obtain ⟨hk, xs, i1, i2⟩ := h
    refine ⟨l.length, xs, A, 0, c, [], i1, rfl, by simp, ?_, fun u hu => (by cases hu), by simpa using h1, by simpa using h2, fun s' w' hA hO => ?_⟩
    · cases A with
      | none => exact .inr ⟨rfl, rfl⟩
      | some ad => exact .inl ⟨ad, rfl, fun j u hu => by simp at hu⟩
    · have hG : Gr k w0 e w' s' (l ++ []) := by
        refine ⟨hk, xs, by simpa using hO, fun i x hi => k.mv (hA.toLf.mv hk.2.2) (i2 i x (by simpa using hi))⟩
      obtain ⟨A, c', rfl⟩ := hG.len
      exact hK A c' w' hA hG
  · obtain ⟨g, off, rfl, _⟩ := hR.at_ hn
    exact h.app hR h1 h2 hK
/-- It is given back: a row of the call's own making. -/
theorem Gr.done {w0 : Fr} {e : TypeId} {w : OW} {A : Option Addr} {n c : Nat} {l : List α} (h : Gr k w0 e w (.slice A n c) l) (kok : ∀ {w' cs x}, k.El (NB w) w' cs x → k.El (fun g => w0.lo ≤ g) w' cs x) : Rows k (fun g => w0.lo ≤ g) w.toWorld A n c l := by
  obtain ⟨hk, xs, i1, i2⟩ := h
  rcases i1.row.2 with ⟨hv, hn⟩ | ⟨g, cap, cur, hv, hb, hg, hcap, hmax, _, _⟩
  · injection hv with v1 v2 v3
    subst v1 v2 v3
    obtain rfl : l = [] := List.eq_nil_of_length_eq_zero hn
    exact Rows.nil _ _ _
  · injection hv with v1 v2 v3
    subst v1 v2 v3
    refine ⟨rfl, hcap, hmax, fun ad h _ => by injection h with h; subst h; rfl, fun hn => ⟨g, 0, rfl, ?_, hb, fun i x hx => ⟨_, kok (i2 i x hx), fun j u hu => ?_⟩⟩⟩
    · exact (Array.getElem?_eq_some_iff.1 hg).1
    · rw [List.getElem?_take] at hu
      split at hu
      · rw [List.getElem?_drop] at hu
        have := i1.row.cells (g := g) rfl _ _ hu
        rw [addr_at] at this
        rw [Nat.zero_add] at this ⊢
        exact this
      · cases hu
end Sx
end Go.Proofs.Ytpkfjfpknbhekaa
namespace Go.Proofs.Ytpkfjfpknbhekaa
open Go.RowKit Pl
/-- A row with nothing in it yet, but room, of a call's own making. -/
def Room (w0 w : World) (e : TypeId) (sz : Nat) (A : Option Addr) (c : Nat) : Prop := (A = none ∧ c = 0) ∨ ∃ g cur, A = some ⟨g, 0, none⟩ ∧ w0.heap.size ≤ g ∧ w.heap[g]? = some (.cells cur e (0, 0)) ∧ c ≤ maxLen ∧ cur.size = c * sz ∧ ∀ u ∈ cur.toList, Sx.LeafOk u
theorem Room.bl {w0 w : World} {e : TypeId} {sz : Nat} {A : Option Addr} {c : Nat} (h : Room w0 w e sz A c) : ∀ g ∈ (A.elim [] fun ad => [ad.block]), w0.heap.size ≤ g ∧ g < w.heap.size := by
  rcases h with ⟨rfl, _⟩ | ⟨g, cur, rfl, h1, h2, _⟩
  · intro g hg; cases hg
  · intro g' hg
    obtain rfl := List.mem_singleton.1 hg
    exact ⟨h1, (Array.getElem?_eq_some_iff.1 h2).1⟩
theorem Room.gr {α : Type} {k : Sx.Kind α} {w0 : World} {w w1 : Sx.OW} {w2 : World} {e : TypeId} {A : Option Addr} {c : Nat} (h1 : Sx.Le (w0 : Sx.Fr) w w1) (h : Room w1.toWorld w2 e k.sz A c) (hk : 0 < k.sz) (hn : (w0 : Sx.Fr).nk k.ik = true := by rfl) : Sx.Gr k w0 e ⟨w2, w1.own, (A.elim [] fun ad => [ad.block]) ++ w1.bld⟩ (.slice A 0 c) ([] : List α) := by
  refine ⟨⟨hk, hn, rfl⟩, [], ?_, fun i x hx => by simp at hx⟩
  rcases h with ⟨rfl, rfl⟩ | ⟨g, cur, rfl, h2, h3, h4, h5, h6⟩
  · exact Sx.OR.nil _ _ _ _
  · refine ⟨⟨by simp, .inr ⟨g, c, cur, rfl, Nat.le_trans h1.b.size h2, h3, Nat.zero_le _, h4, h5, by simp⟩⟩, fun g' hg => ?_, fun g' cur' t x hg hc => ?_⟩
    · simp only [Value.ownBlock, Option.some.injEq] at hg
      subst hg
      exact List.mem_append_left _ (by simp)
    · simp only [Value.ownBlock, Option.some.injEq] at hg
      subst hg
      have h7 : w2.heap[g]? = some (.cells cur' t x) := hc
      rw [h3] at h7
      cases h7
      exact fun u hu => (h6 u hu).n _
namespace Sx
theorem Rows.fr {α : Type} {k : Kind α} {b b' : Nat} {w : World} {A : Option Addr} {n c : Nat} {l : List α} (h : Rows k (fun g => b ≤ g) w A n c l) (hb : b' ≤ b) : 0 < n → ∀ ad : Addr, A = some ad → b' ≤ ad.block := by
  intro hn ad he
  obtain ⟨g, off, h1, _, h3, _⟩ := h.at_ hn
  rw [h1] at he
  cases he
  exact Nat.le_trans hb h3
/-- A row whose block is known to be new. -/
theorem Rows.fresh {α : Type} {k : Kind α} {ok : Nat → Prop} {b : Nat} {w : World} {A : Option Addr} {n c : Nat} {l : List α} (h : Rows k ok w A n c l) (kok : ∀ {w' cs x}, k.El ok w' cs x → k.El (fun g => b ≤ g) w' cs x) (hz : 0 < n → ∀ ad : Addr, A = some ad → b ≤ ad.block) : Rows k (fun g => b ≤ g) w A n c l := by
  refine ⟨h.len, h.cap, h.max, h.pl, fun hn => ?_⟩
  obtain ⟨g, off, h1, h2, _, h4⟩ := h.at_ hn
  exact ⟨g, off, h1, h2, hz hn _ h1, fun i x hx => by
    obtain ⟨cs, e1, e2⟩ := h4 i x hx
    exact ⟨cs, kok e1, e2⟩⟩
section
variable {w0 : Fr} {w : OW} {R : Value → World → Prop} {Pn : List PanicEntry → World → Prop} {Bk : Back} {ρ : List Value} {t : Tree}
end
/-- Two rows that do not lie in one block. -/
def Apart (s s' : Value) : Prop := ∀ g, s.ownBlock = some g → s'.ownBlock ≠ some g
theorem Apart.symm {s s' : Value} (h : Apart s s') : Apart s' s := fun g h1 h2 => h g h2 h1
theorem Apart.nil {s : Value} : Apart s (.slice none 0 0) := fun _ _ h => by cases h
/-- A row that is built, beside another one that is appended to. -/
theorem Gr.other {α : Type} {k : Kind α} {w0 : Fr} {w w' : OW} {e : TypeId} {s s' s2 : Value} {l : List α} (h : Gr k w0 e w s2 l) (hA : App w0 w w' s s') (hd : Apart s s2) (hw : WF w0 w) : Gr k w0 e w' s2 l ∧ Apart s' s2 := by
  obtain ⟨hk, xs, i1, i2⟩ := h
  have key : ∀ g, s2.ownBlock = some g → w'.heap[g]? = w.heap[g]? := fun g hg => hA.keepB g (i1.blk g hg) (fun e => hd g e hg)
  refine ⟨⟨hk, xs, ⟨⟨i1.row.1, ?_⟩, fun g hg => hA.bld g (i1.blk g hg), fun g cur t x hg hc => i1.ok g cur t x hg (by rw [← key g hg]; exact hc)⟩, fun i x hx => k.mv (hA.toLf.mv hk.2.2) (i2 i x hx)⟩, fun g hg hg2 => ?_⟩
  · rcases i1.row.2 with hn | ⟨g, cap, cur, rfl, hb, hgg, rest⟩
    · exact .inl hn
    · exact .inr ⟨g, cap, cur, rfl, hb, by rw [key g rfl]; exact hgg, rest⟩
  · rcases hA.blk with h1 | h1
    · exact hd g (h1 ▸ hg) hg2
    · rw [h1] at hg
      cases hg
      exact absurd (hw.bld _ (i1.blk _ hg2)).2.1 (by omega)
theorem Gr.apart {α : Type} {k : Kind α} {w0 : Fr} {e : TypeId} {w : OW} {s : Value} {l : List α} (h : Gr k w0 e w s l) {N n c : Nat} (hne : ∀ g ∈ w.bld, g ≠ N) : Apart s (.slice (some ⟨N, 0, none⟩) n c) := by
  obtain ⟨hk, xs, i1, i2⟩ := h
  intro g hg hg2
  simp only [Value.ownBlock, Option.some.injEq] at hg2
  exact hne g (i1.blk g hg) hg2.symm
section
variable {w0 : Fr} {w : OW} {R : Value → World → Prop} {Pn : List PanicEntry → World → Prop} {Bk : Back} {ρ : List Value} {t : Tree}
end
/-- A row of one to build upon. -/
theorem Gr.one {α : Type} {k : Kind α} {w0 : Fr} {w : OW} {e : TypeId} {g : Nat} {cs : List Value} {x : α} (hk : 0 < k.sz) (hB : Box w.toWorld g cs e) (hg : g ∈ w.bld) (hb : w0.heap.size ≤ g) (he : k.El (NB w) w.toWorld cs x) (hn : w0.nk k.ik = true := by rfl) (hr : w0.nk .u64 = false := by rfl) : Gr k w0 e w (.slice (some ⟨g, 0, none⟩) 1 1) [x] := by
  have hl := k.len he
  refine ⟨⟨hk, hn, hr⟩, cs, ⟨⟨by rw [hl]; simp, .inr ⟨g, 1, cs.toArray, rfl, Nat.le_trans w0.hlo hb, hB, Nat.le_refl _, by decide, by simp [hl], ?_⟩⟩, fun g' h' => ?_, fun g' cur t x' h' hc => ?_⟩, fun i y hy => ?_⟩
  · simp only [List.length_cons, List.length_nil]
    rw [List.take_of_length_le (by omega)]
  · simp only [Value.ownBlock, Option.some.injEq] at h'
    subst h'
    exact hg
  · simp only [Value.ownBlock, Option.some.injEq] at h'
    subst h'
    have h7 : w.heap[g]? = some (.cells cs.toArray e (0, 0)) := hB
    rw [h7] at hc
    cases hc
    intro u hu
    have := k.okc he u (by simpa using hu)
    exact ⟨this.1, fun K n e => by rw [this.2 K n e]; exact hn⟩
  · cases i with
    | zero =>
      simp only [List.getElem?_cons_zero, Option.some.injEq] at hy
      subst hy
      rw [Nat.zero_mul, List.drop_zero, List.take_of_length_le (by omega)]
      exact he
    | succ i => simp at hy
/-- An empty row to build upon. -/
theorem Gr.empty {α : Type} {k : Kind α} {w0 : Fr} {w : OW} {e : TypeId} {g : Nat} (hk : 0 < k.sz) (hB : Box w.toWorld g [] e) (hg : g ∈ w.bld) (hb : w0.heap.size ≤ g) (hn : w0.nk k.ik = true := by rfl) (hr : w0.nk .u64 = false := by rfl) : Gr k w0 e w (.slice (some ⟨g, 0, none⟩) 0 0) ([] : List α) := by
  refine ⟨⟨hk, hn, hr⟩, [], ⟨⟨by simp, .inr ⟨g, 0, #[], rfl, Nat.le_trans w0.hlo hb, hB, Nat.le_refl _, by decide, by simp, by simp⟩⟩, fun g' h' => ?_, fun g' cur t x' h' hc => ?_⟩, fun i y hy => by simp at hy⟩
  · simp only [Value.ownBlock, Option.some.injEq] at h'
    subst h'
    exact hg
  · simp only [Value.ownBlock, Option.some.injEq] at h'
    subst h'
    have h7 : w.heap[g]? = some (.cells #[] e (0, 0)) := hB
    rw [h7] at hc
    cases hc
    intro u hu
    simp at hu
end Sx
end Go.Proofs.Ytpkfjfpknbhekaa
namespace Go.Proofs.Ytpkfjfpknbhekaa
open Go.RowKit Pl
namespace Sx
/-- Bytes as elements. -/
def kB : Kind Nat where
  sz := 1
  ik := .u8
  El _ _ cs x := cs = [.int .u8 (x : Int)]
  len := by rintro _ _ _ _ rfl; rfl
  mv := fun _ h => h
  okc := by
    rintro _ _ _ _ rfl u hu
    obtain rfl := List.mem_singleton.1 hu
    exact ⟨rfl, fun K n e => by injection e with e1 e2; exact e1.symm⟩
def nkB : IntKind → Bool := fun K => K == .i64 || K == .u8
/-- The frame of a function that may write some blocks. -/
def wfr (w : World) (fr : List Nat) : Fr := ⟨w, fr, nkB, rfl, [], 0, Nat.zero_le _, []⟩
/-- Frames in which bytes are written. -/
structure Wf (w0 : Fr) : Prop where
  lo : w0.lo = 0
  nk : w0.nk = nkB
theorem Wf.wfr (w : World) (fr : List Nat) : Wf (wfr w fr) := ⟨rfl, rfl⟩
theorem Wf.u64 {w0 : Fr} (h : Wf w0) : w0.nk .u64 = false := by rw [h.nk]; rfl
theorem Wf.u8 {w0 : Fr} (h : Wf w0) : w0.nk .u8 = true := by rw [h.nk]; rfl
/-- A row that is built, seen from another frame. -/
theorem Gr.re {w0 w0' : Fr} {w w' : OW} {e : TypeId} {s : Value} {l : List Nat} (h : Gr kB w0 e w s l) (f : Wf w0) (f' : Wf w0') (hb : ∀ g, s.ownBlock = some g → w'.heap[g]? = w.heap[g]? ∧ g ∈ w'.bld) : Gr kB w0' e w' s l := by
  obtain ⟨hp, xs, i1, i2⟩ := h
  refine ⟨⟨hp.1, f'.u8, f'.u64⟩, xs, ⟨⟨i1.row.1, ?_⟩, fun g hg => (hb g hg).2, fun g cur t x hg hc u hu => ?_⟩, i2⟩
  · rcases i1.row.2 with hn | ⟨g, cap, cur, rfl, hl, hg, rest⟩
    · exact .inl hn
    · exact .inr ⟨g, cap, cur, rfl, by rw [f'.lo]; exact Nat.zero_le _, by rw [(hb g rfl).1]; exact hg, rest⟩
  · have := i1.ok g cur t x hg (by rw [← (hb g hg).1]; exact hc) u hu
    exact ⟨this.1, fun K n e => by rw [f'.nk, ← f.nk]; exact this.2 K n e⟩
/-- A writer's state in a frame. -/
structure WrS (ty : TypeId) (w0 : Fr) (w : OW) (g : Nat) (v : Value) (l : List Nat) : Prop where
  box : Box w.toWorld g [v] ty
  bg : g ∈ w.bld
  row : Gr kB w0 5 w v l
  ne : v.ownBlock ≠ some g
def wb (g : Nat) (v : Value) : List Nat := g :: v.ownBlock.toList
theorem mem_wb {g k : Nat} {v : Value} : k ∈ wb g v ↔ k = g ∨ v.ownBlock = some k := by
  unfold wb
  rw [List.mem_cons, Option.mem_toList]
/-- A writer's state, as a callee sees it. -/
def WrW (ty : TypeId) (w : World) (g : Nat) (v : Value) (l : List Nat) : Prop := WrS ty (wfr w (wb g v)) ⟨w, [], wb g v⟩ g v l
theorem WrS.w {ty : TypeId} {w0 : Fr} {w : OW} {g : Nat} {v : Value} {l : List Nat} (h : WrS ty w0 w g v l) (f : Wf w0) : WrW ty w.toWorld g v l :=
  ⟨h.box, mem_wb.2 (.inl rfl), h.row.re f (Wf.wfr _ _) fun _ hk => ⟨rfl, mem_wb.2 (.inr hk)⟩, h.ne⟩
theorem Gr.blk {α : Type} {k : Kind α} {w0 : Fr} {e : TypeId} {w : OW} {s : Value} {l : List α} (h : Gr k w0 e w s l) {g : Nat} (hg : s.ownBlock = some g) : g ∈ w.bld ∧ g < w.heap.size := by
  obtain ⟨_, xs, i1, _⟩ := h
  refine ⟨i1.blk g hg, ?_⟩
  rcases i1.row.2 with ⟨rfl, _⟩ | ⟨g', cap, cur, rfl, _, h2, _⟩
  · cases hg
  · simp only [Value.ownBlock, Option.some.injEq] at hg
    subst hg
    exact (Array.getElem?_eq_some_iff.1 h2).1
theorem WrW.lt {ty : TypeId} {w : World} {g : Nat} {v : Value} {l : List Nat} (h : WrW ty w g v l) : ∀ k ∈ wb g v, k < w.heap.size := fun k hk => by
  rcases mem_wb.1 hk with rfl | hk
  · exact h.box.lt
  · exact (h.row.blk hk).2
theorem WrW.len {ty : TypeId} {w : World} {g : Nat} {v : Value} {l : List Nat} (h : WrW ty w g v l) : ∃ A c, v = .slice A l.length c := h.row.len
/-- What a function does that writes: it appends. -/
structure WrPost (ty : TypeId) (w w' : World) (g : Nat) (v : Value) (l : List Nat) (v' : Value) : Prop where
  st : WrW ty w' g v' l
  b : BelowF (wfr w (wb g v)) w'
  blk : ∀ k, v'.ownBlock = some k → v.ownBlock = some k ∨ w.heap.size ≤ k
theorem WrW.start {ty : TypeId} {w : World} {g : Nat} {v : Value} {l : List Nat} (h : WrW ty w g v l) : WF (wfr w (wb g v)) ⟨w, [], wb g v⟩ :=
  ⟨fun k hk => (by cases hk), fun k hk => ⟨.inl hk, h.lt k hk, fun e => (by cases e)⟩⟩
theorem WrS.le {ty : TypeId} {w0 : Fr} {w w' : OW} {g : Nat} {v : Value} {l : List Nat} (h : WrS ty w0 w g v l) (hl : Le w0 w w') : WrS ty w0 w' g v l :=
  ⟨by unfold Box; rw [hl.keepB g h.bg]; exact h.box, hl.bld g h.bg, h.row.le hl, h.ne⟩
/-- A number that is read lies in none of the writer's blocks. -/
theorem rd_ne {ty : TypeId} {w0 : Fr} {w : OW} {g : Nat} {v : Value} {l : List Nat} (h : WrS ty w0 w g v l) {K : IntKind} (hK : w0.nk K = false) {b off : Nat} {x : Int} (hc : w.cell? ⟨b, off, none⟩ = some (.int K x)) : b ≠ g ∧ v.ownBlock ≠ some b := by
  refine ⟨?_, fun hb => ?_⟩
  · rintro rfl
    rw [h.box.get] at hc
    obtain ⟨A, c, hv⟩ := h.row.len
    have := List.mem_of_getElem? hc
    rw [List.mem_singleton, hv] at this
    cases this
  · obtain ⟨_, xs, i1, _⟩ := h.row
    rcases i1.row.2 with ⟨rfl, _⟩ | ⟨g', cap, cur, rfl, _, h2, _⟩
    · cases hb
    · simp only [Value.ownBlock, Option.some.injEq] at hb
      subst hb
      rw [cell_of_row w.toWorld g' _ cur _ (0, 0) h2] at hc
      have h3 := (i1.ok g' cur _ _ rfl h2 _ (Array.mem_toList_iff.2 (Array.mem_of_getElem? hc))).2 _ _ rfl
      rw [hK] at h3
      cases h3
/-- A call of a function that writes. -/
theorem WrPost.eff {ty : TypeId} {w0 : Fr} {w : OW} {w2 : World} {g : Nat} {v v' : Value} {l l' : List Nat} (hw : WF w0 w) (hb : BelowF w0 w.toWorld) (f : Wf w0) (h : WrS ty w0 w g v l) (p : WrPost ty w.toWorld w2 g v l' v') :
    Eff w0 w ⟨w2, w.own, v'.ownBlock.toList ++ w.bld⟩ ∧ WrS ty w0 ⟨w2, w.own, v'.ownBlock.toList ++ w.bld⟩ g v' l' ∧ ∀ k, k < w.heap.size → k ≠ g → v.ownBlock ≠ some k → w2.heap[k]? = w.heap[k]? := by
  have hblk : ∀ k ∈ wb g v, k ∈ w.bld := fun k hk => by
    rcases mem_wb.1 hk with rfl | hk
    · exact h.bg
    · exact (h.row.blk hk).1
  have keep : ∀ k, k < w.heap.size → k ≠ g → v.ownBlock ≠ some k → w2.heap[k]? = w.heap[k]? := fun k hk h1 h2 => p.b.block k hk (fun hm => (mem_wb.1 hm).elim h1 h2)
  have hnew : ∀ k, v'.ownBlock = some k → k ∈ w.bld ∨ w.heap.size ≤ k := fun k hk => (p.blk k hk).imp (fun e => (h.row.blk e).1) id
  refine ⟨⟨⟨fun {K A n c xs} hK hr => ⟨hr.len, hr.cap, hr.max, fun hn => ?_⟩, hb.trans (w1 := wfr w.toWorld (wb g v)) p.b (fun k hk => (hw.bld k (hblk k hk)).1), p.b.size, fun k hk h1 h2 => keep k hk (fun e => h2 (e ▸ h.bg)) (fun e => h2 (h.row.blk e).1), fun _ h => h, fun _ h => .inl h, fun k hk => List.mem_append_right _ hk, fun k hk => ?_, ⟨fun k hk => ⟨(hw.own k hk).1, Nat.lt_of_lt_of_le (hw.own k hk).2 p.b.size⟩, fun k hk => ?_⟩⟩, fun k hk => keep k (hw.own k hk).2 (fun e => (hw.bld g h.bg).2.2 (e ▸ hk)) (fun e => (hw.bld k (h.row.blk e).1).2.2 hk), rfl⟩, ⟨p.st.box, List.mem_append_right _ h.bg, p.st.row.re (Wf.wfr _ _) f fun k hk => ⟨rfl, List.mem_append_left _ (Option.mem_toList.2 hk)⟩, p.st.ne⟩, keep⟩
  · obtain ⟨b, off, hA, hbl, hc⟩ := hr.at_ hn
    obtain ⟨n1, n2⟩ := rd_ne h hK (hc 0 hn)
    exact ⟨b, off, hA, Nat.lt_of_lt_of_le hbl p.b.size, fun k hk => (World.cell?_of_block (a := ⟨b, _, none⟩) (keep b hbl n1 n2)).trans (hc k hk)⟩
  · rcases List.mem_append.1 hk with hk | hk
    · exact hnew k (Option.mem_toList.1 hk)
    · exact .inl hk
  · rcases List.mem_append.1 hk with hk | hk
    · have hk := Option.mem_toList.1 hk
      rcases hnew k hk with h1 | h1
      · exact ⟨(hw.bld k h1).1, (p.st.row.blk hk).2, (hw.bld k h1).2.2⟩
      · exact ⟨.inr (Nat.le_trans hb.size h1), (p.st.row.blk hk).2, fun e => absurd (hw.own k e).2 (by omega)⟩
    · exact ⟨(hw.bld k hk).1, Nat.lt_of_lt_of_le (hw.bld k hk).2.1 p.b.size, (hw.bld k hk).2.2⟩
/-- A value is laid into a variable that is written through a pointer. -/
theorem Eff.setRow {w0 : Fr} {w : OW} (hw : WF w0 w) (h : BelowF w0 w.toWorld) {g : Nat} {vs : List Value} {ty : TypeId} (hB : Box w.toWorld g vs ty) (hok : ∀ v ∈ vs, LeafN w0 v) (hg : g ∈ w.bld) (cs : Array Value) : Eff w0 w ⟨w.setRow g cs, w.own, w.bld⟩ := by
  have hgw := hw.bld g hg
  refine ⟨⟨fun {K A n c xs} hK hr => ⟨hr.len, hr.cap, hr.max, fun hn => ?_⟩, h.setRow hgw.1 _, by simp, fun g' _ _ hn => setRow_other w.toWorld g g' _ (fun e => hn (e ▸ hg)), fun _ h => h, fun _ h => .inl h, fun _ h => h, fun _ h => .inl h, hw.mono (by simp)⟩, fun g' hg' => setRow_other w.toWorld g g' _ (fun e => hgw.2.2 (e ▸ hg')), rfl⟩
  obtain ⟨b, off, hA, hb, hc⟩ := hr.at_ hn
  have hne : b ≠ g := by
    rintro rfl
    have h1 := hc 0 hn
    rw [hB.get] at h1
    have h2 := (hok _ (List.mem_of_getElem? h1)).2 _ _ rfl
    rw [hK] at h2
    cases h2
  exact ⟨b, off, hA, by simpa using hb, fun k hk => by rw [cell_setRow_other w.toWorld g cs _ hne]; exact hc k hk⟩
section
variable {w0 : Fr} {w w' : OW} {R : Value → World → Prop} {Pn : List PanicEntry → World → Prop} {Bk : Back} {ρ : List Value} {t t' : Tree}
/-- A call that may write. -/
theorem sat_callE {f : FuncId} {args : List Tm} {sh : Sh} (vs : Array Value) (has : (args.map (Tm.den ρ [])).toArray = vs)
    (h : ∀ w1 : OW, Le w0 w w1 → Calls Try.prog f vs w1.toWorld fun e w2 => (∃ l x ow, e = .returned x ∧ sh.val l = x ∧ l.length = sh.len ∧ ow.toWorld = w2 ∧ Eff w0 w1 ow ∧ (Lf w0 w ow → satB Try.prog w0 R Pn Bk t (ρ ++ l) ow)) ∨ ∃ c, e = .panicked c ∧ BelowF w0 w2 ∧ Pn c w2) :
    satB Try.prog w0 R Pn Bk (.call f args sh t) ρ w := by
  intro w1 h1
  rw [has]
  refine (h w1 h1).mono fun e w2 hc => ?_
  rcases hc with ⟨l, x, ow, rfl, rfl, hl, rfl, hE, hk⟩ | ⟨c, rfl, hb, hp⟩
  · exact ⟨l, ow, hl, rfl, rfl, hE, hk (h1.toLf.trans hE.toLf)⟩
  · exact ⟨hb, hp⟩
theorem sat_callvE {x : At} {args : List Tm} {sh : Sh} {f : FuncId} {first caps : Array Value} (hx : x.den ρ [] = .func (.func f) first caps) (hg : goodF Try.prog f = true) (vs : Array Value) (has : first ++ (args.map (Tm.den ρ [])).toArray ++ caps = vs)
    (h : ∀ w1 : OW, Le w0 w w1 → Calls Try.prog f vs w1.toWorld fun e w2 => (∃ l x ow, e = .returned x ∧ sh.val l = x ∧ l.length = sh.len ∧ ow.toWorld = w2 ∧ Eff w0 w1 ow ∧ (Lf w0 w ow → satB Try.prog w0 R Pn Bk t (ρ ++ l) ow)) ∨ ∃ c, e = .panicked c ∧ BelowF w0 w2 ∧ Pn c w2) :
    satB Try.prog w0 R Pn Bk (.callv x args sh t) ρ w := by
  intro w1 h1
  refine ⟨f, first, caps, hx, hg, ?_⟩
  rw [has]
  refine (h w1 h1).mono fun e w2 hc => ?_
  rcases hc with ⟨l, x, ow, rfl, rfl, hl, rfl, hE, hk⟩ | ⟨c, rfl, hb, hp⟩
  · exact ⟨l, ow, hl, rfl, rfl, hE, hk (h1.toLf.trans hE.toLf)⟩
  · exact ⟨hb, hp⟩
/-- Blocks of the caller's that the writer does not write. -/
def Same (w : OW) (g : Nat) (v : Value) (ow : OW) (v' : Value) : Prop := ∀ k ∈ w.bld, k ≠ g → v.ownBlock ≠ some k → ow.heap[k]? = w.heap[k]? ∧ k ∈ ow.bld ∧ v'.ownBlock ≠ some k
/-- A function that writes is called. -/
theorem sat_wcall {ty : TypeId} {f : FuncId} {args : List Tm} {g : Nat} {v : Value} {l l' : List Nat} (fW : Wf w0) (S : WrS ty w0 w g v l) (vs : Array Value) (has : (args.map (Tm.den ρ [])).toArray = vs)
    (h : ∀ w1 : OW, Le w0 w w1 → WrW ty w1.toWorld g v l → Calls Try.prog f vs w1.toWorld fun e w2 => e = .returned (.tuple #[]) ∧ ∃ v', WrPost ty w1.toWorld w2 g v l' v')
    (k : ∀ ow v', Lf w0 w ow → Same w g v ow v' → WrS ty w0 ow g v' l' → satB Try.prog w0 R Pn Bk t ρ ow) : satB Try.prog w0 R Pn Bk (.call f args (.tup []) t) ρ w := by
  refine sat_callE vs has fun w1 h1 => (h w1 h1 ((S.le h1).w fW)).mono fun e w2 ⟨he, v', hp⟩ => .inl ?_
  obtain ⟨e1, e2, e3⟩ := hp.eff h1.wf h1.b fW (S.le h1)
  refine ⟨[], _, _, he, rfl, rfl, rfl, e1, fun hl => ?_⟩
  rw [List.append_nil]
  exact k _ v' hl (fun q hq n1 n2 => ⟨(e3 q ((h1.wf.bld q (h1.bld q hq)).2.1) n1 n2).trans (h1.keepB q hq), List.mem_append_right _ (h1.bld q hq), fun e => (hp.blk q e).elim n2 (fun hs => absurd (h1.wf.bld q (h1.bld q hq)).2.1 (by omega))⟩) e2
theorem sat_wcallv {ty : TypeId} {x : At} {f : FuncId} {args : List Tm} {first caps : Array Value} {g : Nat} {v : Value} {l l' : List Nat} (fW : Wf w0) (S : WrS ty w0 w g v l) (hx : x.den ρ [] = .func (.func f) first caps) (hg : goodF Try.prog f = true) (vs : Array Value) (has : first ++ (args.map (Tm.den ρ [])).toArray ++ caps = vs)
    (h : ∀ w1 : OW, Le w0 w w1 → WrW ty w1.toWorld g v l → Calls Try.prog f vs w1.toWorld fun e w2 => e = .returned (.tuple #[]) ∧ ∃ v', WrPost ty w1.toWorld w2 g v l' v')
    (k : ∀ ow v', Lf w0 w ow → Same w g v ow v' → WrS ty w0 ow g v' l' → satB Try.prog w0 R Pn Bk t ρ ow) : satB Try.prog w0 R Pn Bk (.callv x args (.tup []) t) ρ w := by
  refine sat_callvE hx hg vs has fun w1 h1 => (h w1 h1 ((S.le h1).w fW)).mono fun e w2 ⟨he, v', hp⟩ => .inl ?_
  obtain ⟨e1, e2, e3⟩ := hp.eff h1.wf h1.b fW (S.le h1)
  refine ⟨[], _, _, he, rfl, rfl, rfl, e1, fun hl => ?_⟩
  rw [List.append_nil]
  exact k _ v' hl (fun q hq n1 n2 => ⟨(e3 q ((h1.wf.bld q (h1.bld q hq)).2.1) n1 n2).trans (h1.keepB q hq), List.mem_append_right _ (h1.bld q hq), fun e => (hp.blk q e).elim n2 (fun hs => absurd (h1.wf.bld q (h1.bld q hq)).2.1 (by omega))⟩) e2
/-- The row that a writer holds is loaded. -/
theorem sat_box {ty t1 : TypeId} {x : At} {g off : Nat} {vs : List Value} (u : Value) (hB : Box w.toWorld g vs t1) (hx : x.den ρ [] = .pointer (some ⟨g, off, none⟩)) (hu : vs[off]? = some u) (h2 : rowB Try.prog ty = some false) (hk : ∀ w', Lf w0 w w' → w'.heap[g]? = w.heap[g]?)
    (h : satB Try.prog w0 R Pn Bk t (ρ ++ [u]) w) : satB Try.prog w0 R Pn Bk (.load ty x .one t) ρ w := by
  refine sat_load [u] _ hx rfl (fun w' hl => ?_) h
  have hb : Box w'.toWorld g vs t1 := by unfold Box; rw [hk w' hl]; exact hB
  exact load_one h2 (by rw [hb.get]; exact hu)
end
end Sx
end Go.Proofs.Ytpkfjfpknbhekaa
