/- A symbolic executor for straight-line code, part G: its use over this program. Copies of structs in a walk by a tree: what is copied is looked at by the kernel. Rows of structs as data: what they read as, how they move from world to world, how their elements are loaded, how they are built. -/
import Derived.Test.YtpkfjfpknbhekaaSxFx
import Derived.Test.YtpkfjfpknbhekaaDyMx
namespace Go.Proofs.Ytpkfjfpknbhekaa
open Go.RowKit Pl
namespace Sx
theorem mixed : Try.prog.follows .mixedOrders = true := by kernel_rfl
section
variable {w0 : Fr} {w w' : OW} {R : Value → World → Prop} {Pn : List PanicEntry → World → Prop} {Bk : Back} {ρ : List Value} {t t' : Tree}
theorem Lf.rdD (h : Lf w0 w w') {u : Value} {d : Dy} (r : RdD w.toWorld u d) (hk : w0.nk .u64 = false := by rfl) : RdD w'.toWorld u d := by
  obtain ⟨A, n, c, h1, h2, h3⟩ := r
  exact ⟨A, n, c, h1, h.rdk hk h2, h3⟩
end
section
variable {w0 : Fr} {w w' : OW} {R : Value → World → Prop} {Pn : List PanicEntry → World → Prop} {Bk : Back} {ρ : List Value} {t t' : Tree}
theorem okB (b : Bool) : LeafOk (.bool b) := ⟨rfl, fun K x e => by cases e⟩
theorem okS (A : Option Addr) (n c : Nat) : LeafOk (.slice A n c) := ⟨rfl, fun K x e => by cases e⟩
theorem okI (n : Int) : LeafOk (.int .i64 n) := ⟨rfl, fun K x e => by injection e with e; exact e.symm⟩
theorem all_nil {p : At → Prop} : ∀ x ∈ ([] : List At), p x := fun x h => by cases h
theorem all_cons {p : At → Prop} {y : At} {l : List At} (h : p y) (k : ∀ x ∈ l, p x) : ∀ x ∈ y :: l, p x := fun x hx => by
  rcases List.mem_cons.1 hx with rfl | hx
  · exact h
  · exact k x hx
theorem sat_chk {l : List At} (h : ∀ x ∈ l, LeafOk (x.den ρ [])) (k : satB Try.prog w0 R Pn Bk t ρ w) : satB Try.prog w0 R Pn Bk (.chk l t) ρ w := ⟨h, k⟩
theorem sat_prim {p : Prim} {args : List At} {v : Value} (h : p.ev (denL ρ [] args) = some v) (k : satB Try.prog w0 R Pn Bk t (ρ ++ [v]) w) : satB Try.prog w0 R Pn Bk (.prim p args t) ρ w := ⟨v, h, k⟩
theorem sat_ite {c : At} {b : Bool} (h : c.den ρ [] = .bool b) (h1 : b = true → satB Try.prog w0 R Pn Bk t ρ w) (h2 : b = false → satB Try.prog w0 R Pn Bk t' ρ w) : satB Try.prog w0 R Pn Bk (.ite c t t') ρ w := ⟨b, h, h1, h2⟩
theorem sat_true {c : At} (h : c.den ρ [] = .bool true) (k : satB Try.prog w0 R Pn Bk t ρ w) : satB Try.prog w0 R Pn Bk (.ite c t t') ρ w := ⟨true, h, fun _ => k, fun e => by cases e⟩
theorem sat_false {c : At} (h : c.den ρ [] = .bool false) (k : satB Try.prog w0 R Pn Bk t' ρ w) : satB Try.prog w0 R Pn Bk (.ite c t t') ρ w := ⟨false, h, fun e => (by cases e), fun _ => k⟩
theorem sat_trueP {c : At} {b : Bool} (h : c.den ρ [] = .bool b) (hb : b = true) (k : satB Try.prog w0 R Pn Bk t ρ w) : satB Try.prog w0 R Pn Bk (.ite c t t') ρ w := sat_true (h.trans (by rw [hb])) k
theorem sat_falseP {c : At} {b : Bool} (h : c.den ρ [] = .bool b) (hb : b = false) (k : satB Try.prog w0 R Pn Bk t' ρ w) : satB Try.prog w0 R Pn Bk (.ite c t t') ρ w := sat_false (h.trans (by rw [hb])) k
theorem sat_ret {v : Tm} (x : Value) (hv : v.den ρ [] = x) (h : ∀ w', Le w0 w w' → R x w'.toWorld) : satB Try.prog w0 R Pn Bk (.ret v) ρ w := fun w' hl => by rw [hv]; exact h w' hl
/-- A call that returns. -/
theorem sat_call {f : FuncId} {args : List Tm} {sh : Sh} (vs : Array Value) (has : (args.map (Tm.den ρ [])).toArray = vs)
    (h : ∀ w1 : OW, Le w0 w w1 → Calls Try.prog f vs w1.toWorld fun e w2 => Below w1.heap.size w1.toWorld w2 ∧ ∃ l x, e = .returned x ∧ sh.val l = x ∧ l.length = sh.len ∧ (Le w0 w ⟨w2, w1.own, w1.bld⟩ → satB Try.prog w0 R Pn Bk t (ρ ++ l) ⟨w2, w1.own, w1.bld⟩)) :
    satB Try.prog w0 R Pn Bk (.call f args sh t) ρ w := by
  intro w1 h1
  rw [has]
  refine (h w1 h1).mono fun e w2 ⟨hb, l, x, he, hx, hl, hk⟩ => ?_
  subst he hx
  exact ⟨l, ⟨w2, w1.own, w1.bld⟩, hl, rfl, rfl, Eff.ofB (bl := []) h1.wf h1.b hb (fun g hg => by cases hg), hk (h1.trans (Le.of h1.wf h1.b hb))⟩
/-- A call that returns what is then built upon. -/
theorem sat_callB {f : FuncId} {args : List Tm} {sh : Sh} (vs : Array Value) (has : (args.map (Tm.den ρ [])).toArray = vs)
    (h : ∀ w1 : OW, Le w0 w w1 → Calls Try.prog f vs w1.toWorld fun e w2 => Below w1.heap.size w1.toWorld w2 ∧ ∃ l bl x, e = .returned x ∧ sh.val l = x ∧ l.length = sh.len ∧ (∀ g ∈ bl, w1.heap.size ≤ g ∧ g < w2.heap.size) ∧ (Le w0 w ⟨w2, w1.own, bl ++ w1.bld⟩ → satB Try.prog w0 R Pn Bk t (ρ ++ l) ⟨w2, w1.own, bl ++ w1.bld⟩)) :
    satB Try.prog w0 R Pn Bk (.call f args sh t) ρ w := by
  intro w1 h1
  rw [has]
  refine (h w1 h1).mono fun e w2 ⟨hb, l, bl, x, he, hx, hl, hbl, hk⟩ => ?_
  subst he hx
  exact ⟨l, ⟨w2, w1.own, bl ++ w1.bld⟩, hl, rfl, rfl, Eff.ofB h1.wf h1.b hb hbl, hk (h1.trans (Le.ofB h1.wf h1.b hb hbl))⟩
/-- A call that panics. -/
theorem sat_callP {f : FuncId} {args : List Tm} {sh : Sh} (vs : Array Value) (has : (args.map (Tm.den ρ [])).toArray = vs)
    (h : ∀ w1 : OW, Le w0 w w1 → Calls Try.prog f vs w1.toWorld fun e w2 => ∃ c, e = .panicked c ∧ Below w1.heap.size w1.toWorld w2 ∧ Pn c w2) :
    satB Try.prog w0 R Pn Bk (.call f args sh t) ρ w := by
  intro w1 h1
  rw [has]
  refine (h w1 h1).mono fun e w2 ⟨c, he, hb, hk⟩ => ?_
  subst he
  exact ⟨h1.b.step hb, hk⟩
theorem sat_row {e : TypeId} {cs : List At} {n : Nat} {k : List At} (vs : List Value) (hcs : denL ρ [] cs = vs) (hk : ∀ x ∈ k, (x.den ρ []).oneCell' = true)
    (h : ∀ w1 : OW, Le w0 w ⟨w1.alloc (.cells vs.toArray e), w1.own, w1.bld⟩ → Box (w1.alloc (.cells vs.toArray e)) w1.heap.size vs e → satB Try.prog w0 R Pn Bk t (ρ ++ [.slice (some ⟨w1.heap.size, 0, none⟩) n n]) ⟨w1.alloc (.cells vs.toArray e), w1.own, w1.bld⟩) : satB Try.prog w0 R Pn Bk (.row e cs n k t) ρ w := by
  refine ⟨hk, fun w' hl => .inl ?_⟩
  rw [hcs]
  exact h w' (hl.trans (Le.of hl.wf hl.b (by go_grown))) (Box.new w'.toWorld vs e)
theorem sat_load {ty : TypeId} {x : At} {sh : Sh} (l : List Value) (ad : Addr) (hx : x.den ρ [] = .pointer (some ad)) (hl : l.length = sh.len) (h : ∀ w', Lf w0 w w' → (loadVar ty ad).run Try.prog w'.toWorld = .ok (sh.val l) w'.toWorld) (k : satB Try.prog w0 R Pn Bk t (ρ ++ l) w) : satB Try.prog w0 R Pn Bk (.load ty x sh t) ρ w :=
  ⟨l, ad, hl, hx, h, k⟩
theorem sat_app {e : TypeId} {sz by' : Nat} {s x : At} (vs vx : Value) (hs : s.den ρ [] = vs) (hx : x.den ρ [] = vx) (h : ∀ w1 : OW, Le w0 w w1 → AppOk w0 e sz by' vs vx w1 fun s' w2 => satB Try.prog w0 R Pn Bk t (ρ ++ [s']) w2) : satB Try.prog w0 R Pn Bk (.app e sz by' s x t) ρ w := by
  intro w1 h1
  rw [hs, hx]
  exact h w1 h1
theorem sat_loop {d : Nat} {init : List At} {body : Tree} (I : Nat → List Value → OW → Prop) (vs : List Value) (hvs : denL ρ [] init = vs) (h0 : ∀ w1, Le w0 w w1 → ∃ n, I n vs w1)
    (h : ∀ n vals w1, Lf w0 w w1 → I n vals w1 → satB Try.prog w0 R Pn (Bk.set d fun vs w2 => ∃ n', n' < n ∧ I n' vs w2) body (ρ ++ vals) w1) : satB Try.prog w0 R Pn Bk (.loop d init body) ρ w :=
  ⟨I, fun w1 h1 => by rw [hvs]; exact h0 w1 h1, fun n vals w1 _ hL hI => h n vals w1 hL hI⟩
theorem sat_back {d : Nat} {vals : List At} {p : List Value → OW → Prop} (vs : List Value) (hvs : denL ρ [] vals = vs) (h : ∀ w1, Le w0 w w1 → p vs w1) : satB Try.prog w0 R Pn (Bk.set d p) (.back d vals) ρ w := by
  intro w1 h1
  simp only [Back.set, if_true, hvs]
  exact h w1 h1
theorem sat_alt {t t' : Tree} (h : satB Try.prog w0 R Pn Bk t ρ w) (h' : satB Try.prog w0 R Pn Bk t' ρ w) : satB Try.prog w0 R Pn Bk (.alt t t') ρ w := ⟨h, h'⟩
/-- Back to the head of the loop around. -/
theorem sat_backO {d d' : Nat} {vals : List At} {p q : List Value → OW → Prop} (hd : (d == d') = false) (vs : List Value) (hvs : denL ρ [] vals = vs) (h : ∀ w1, Le w0 w w1 → p vs w1) : satB Try.prog w0 R Pn ((Bk.set d p).set d' q) (.back d vals) ρ w := by
  intro w1 h1
  simp only [Back.set]
  rw [if_neg (by simpa using hd)]
  simp only [if_true, hvs]
  exact h w1 h1
end
/-- The call by its tree; it may panic; some parameters are known functions; the shapes are given. -/
theorem runAt (fx : List (Nat × FuncId)) (hv : List Nat) {f : FuncId} {ls : List Value} {shs : List (Bool × Nat)} {t : Tree} {w : World} {R : Value → World → Prop} {Pn : List PanicEntry → World → Prop} (ht : treeAt Try.prog f fx hv shs = some t) (hl : ls.length = (shs.map (·.2)).sum) (h1 : (shs.all fun c => c.1 || c.2 == 1) = true)
    (hfx : ∀ q ∈ fx, (tupV ls shs)[q.1]? = some (.func (.func q.2) #[] #[])) (hs : sat Try.prog (w : Fr) R Pn t ls ⟨w, [], []⟩) : Calls Try.prog f (tupV ls shs).toArray w fun e w' => Below w.heap.size w w' ∧ ((∃ v, e = .returned v ∧ R v w') ∨ ∃ c, e = .panicked c ∧ Pn c w') := by
  refine (sx_callsAt mixed ht hl (fun c hc hf => ?_) hfx hs).mono fun e w' h => ?_
  · have := List.all_eq_true.1 h1 c hc
    simpa [hf] using this
  · cases e with
    | returned v => exact ⟨h.2.below, .inl ⟨v, rfl, h.1⟩⟩
    | panicked c => exact ⟨h.2.below, .inr ⟨c, rfl, h.1⟩⟩
    | outgrown => exact h.elim
/-- The same, where it does not panic. -/
theorem runA (fx : List (Nat × FuncId)) (hv : List Nat) {f : FuncId} {ls : List Value} {shs : List (Bool × Nat)} {t : Tree} {w : World} {R : Value → World → Prop} (ht : treeAt Try.prog f fx hv shs = some t) (hl : ls.length = (shs.map (·.2)).sum) (h1 : (shs.all fun c => c.1 || c.2 == 1) = true)
    (hfx : ∀ q ∈ fx, (tupV ls shs)[q.1]? = some (.func (.func q.2) #[] #[])) (hs : sat Try.prog (w : Fr) R (fun _ _ => False) t ls ⟨w, [], []⟩) : Calls Try.prog f (tupV ls shs).toArray w fun e w' => ∃ v, e = .returned v ∧ R v w' ∧ Below w.heap.size w w' :=
  (runAt fx hv ht hl h1 hfx hs).mono fun e w' h => by
    obtain ⟨hb, ⟨v, he, hv⟩ | ⟨c, he, hc⟩⟩ := h
    · exact ⟨v, he, hv, hb⟩
    · exact hc.elim
/-- The call by its tree, where it does not panic; some parameters are known functions. -/
theorem runF (fx : List (Nat × FuncId)) {f : FuncId} {ls : List Value} {shs : List (Bool × Nat)} {t : Tree} {w : World} {R : Value → World → Prop} (hsh : shsOf Try.prog f = some shs) (ht : treeWith Try.prog f fx = some t) (hl : ls.length = (shs.map (·.2)).sum) (h1 : (shs.all fun c => c.1 || c.2 == 1) = true)
    (hfx : ∀ q ∈ fx, (tupV ls shs)[q.1]? = some (.func (.func q.2) #[] #[])) (hs : sat Try.prog (w : Fr) R (fun _ _ => False) t ls ⟨w, [], []⟩) : Calls Try.prog f (tupV ls shs).toArray w fun e w' => ∃ v, e = .returned v ∧ R v w' ∧ Below w.heap.size w w' := by
  refine (sx_calls mixed hsh ht hl (fun c hc hf => ?_) hfx hs).mono fun e w' h => ?_
  · have := List.all_eq_true.1 h1 c hc
    simpa [hf] using this
  · cases e with
    | returned v => exact ⟨v, rfl, h.1, h.2.below⟩
    | panicked c => exact h.1.elim
    | outgrown => exact h.elim
/-- The call by its tree, where it does not panic. -/
theorem run {f : FuncId} {ls : List Value} {shs : List (Bool × Nat)} {t : Tree} {w : World} {R : Value → World → Prop} (hsh : shsOf Try.prog f = some shs) (ht : treeOf Try.prog f = some t) (hl : ls.length = (shs.map (·.2)).sum) (h1 : (shs.all fun c => c.1 || c.2 == 1) = true)
    (hs : sat Try.prog (w : Fr) R (fun _ _ => False) t ls ⟨w, [], []⟩) : Calls Try.prog f (tupV ls shs).toArray w fun e w' => ∃ v, e = .returned v ∧ R v w' ∧ Below w.heap.size w w' := runF [] hsh ht hl h1 (fun q h => by cases h) hs
end Sx
end Go.Proofs.Ytpkfjfpknbhekaa
namespace Go.Proofs.Ytpkfjfpknbhekaa
open Go.RowKit Pl
open Sx (sat_chk okB okS okI)

/-- Which values a copy of a struct may hold, reckoned. -/
def okV : Value → Bool
  | .bool _ => true
  | .slice _ _ _ => true
  | .int .i64 _ => true
  | _ => false
theorem okV_leaf {v : Value} (h : okV v = true) : Sx.LeafOk v := by
  unfold okV at h
  split at h
  · exact okB _
  · exact okS _ _ _
  · exact okI _
  · cases h
theorem sat_chkB {w0 : Sx.Fr} {w : Sx.OW} {R : Value → World → Prop} {Pn : List PanicEntry → World → Prop} {Bk : Sx.Back} {ρ : List Value} {t : Sx.Tree} {l : List Sx.At} (h : (l.all fun x => okV (x.den ρ [])) = true) (k : Sx.satB Try.prog w0 R Pn Bk t ρ w) : Sx.satB Try.prog w0 R Pn Bk (.chk l t) ρ w :=
  sat_chk (fun x hx => okV_leaf (List.all_eq_true.1 h x hx)) k
end Go.Proofs.Ytpkfjfpknbhekaa
namespace Go.Proofs.Ytpkfjfpknbhekaa
open Go.RowKit Pl
namespace Sx

/-- What moves from one world to another: numbers, and blocks that are ok. -/
structure Mv (w w' : World) (ok ok' : Nat → Prop) : Prop where
  rd : ∀ {K : IntKind} {A : Option Addr} {n c : Nat} {xs : List Nat}, K = .u64 → RdN K w A n c xs → RdN K w' A n c xs
  sz : w.heap.size ≤ w'.heap.size
  keep : ∀ g, g < w.heap.size → ok g → w'.heap[g]? = w.heap[g]? ∧ ok' g
/-- Neither a variable of the call's own nor a row that it builds. -/
def NB (w : OW) (g : Nat) : Prop := g ∉ w.own ∧ g ∉ w.bld
theorem Lf.mv {w0 : Fr} {w w' : OW} (h : Lf w0 w w') (hk : w0.nk .u64 = false := by rfl) : Mv w.toWorld w'.toWorld (NB w) (NB w') :=
  ⟨fun e hr => h.rdk (e ▸ hk) hr, h.sz, fun g hg hn => ⟨h.keep g hg hn.1 hn.2, fun e => (h.own' g e).elim hn.1 (fun e => absurd hg (by omega)), fun e => (h.bld' g e).elim hn.2 (fun e => absurd hg (by omega))⟩⟩
theorem Mv.below {w w' : World} (h : Below w.heap.size w w') (ok : Nat → Prop) : Mv w w' ok ok := ⟨fun _ hr => hr.below h, h.size, fun g hg ho => ⟨h.block g hg, ho⟩⟩
theorem Mv.weak {w : World} {ok ok' : Nat → Prop} (h : ∀ g, g < w.heap.size → ok g → ok' g) : Mv w w ok ok' := ⟨fun _ hr => hr, Nat.le_refl _, fun g hg ho => ⟨rfl, h g hg ho⟩⟩
/-- What a call has made anew is none of the caller's own. -/
theorem Mv.fresh {w0 : Fr} {w1 : OW} {w2 : World} (h : WF w0 w1) : Mv w2 w2 (fun g => w1.heap.size ≤ g) (NB ⟨w2, w1.own, w1.bld⟩) :=
  Mv.weak fun g _ ho => ⟨fun e => absurd (h.own g e).2 (by omega), fun e => absurd (h.bld g e).2.1 (by omega)⟩
/-- What was there at the call's beginning is none of its own. -/
theorem Mv.start {w0 : World} {w : OW} (h : Lf (w0 : Fr) ⟨w0, [], []⟩ w) : Mv w0 w.toWorld (fun _ => True) (NB w) := by
  have := h.mv
  exact ⟨this.rd, this.sz, fun g hg _ => this.keep g hg ⟨by simp, by simp⟩⟩

/-- A kind of element: how many cells, what they read as. -/
structure Kind (α : Type) where
  sz : Nat
  ik : IntKind := .i64
  El : (Nat → Prop) → World → List Value → α → Prop
  len : ∀ {ok w cs x}, El ok w cs x → cs.length = sz
  mv : ∀ {ok ok' w w' cs x}, Mv w w' ok ok' → El ok w cs x → El ok' w' cs x
  okc : ∀ {ok w cs x}, El ok w cs x → ∀ u ∈ cs, u.oneCell' = true ∧ ∀ K n, u = .int K n → K = ik
/-- A slice that reads as a list. -/
structure Rows {α : Type} (k : Kind α) (ok : Nat → Prop) (w : World) (A : Option Addr) (n c : Nat) (l : List α) : Prop where
  len : l.length = n
  cap : n ≤ c
  max : c ≤ maxLen
  pl : ∀ ad : Addr, A = some ad → 0 < c → ad.spot = none
  at_ : 0 < n → ∃ g off, A = some ⟨g, off, none⟩ ∧ g < w.heap.size ∧ ok g ∧ ∀ (i : Nat) x, l[i]? = some x → ∃ cs, k.El ok w cs x ∧ ∀ (j : Nat) u, cs[j]? = some u → w.cell? ⟨g, off + i * k.sz + j, none⟩ = some u
theorem Rows.nil {α : Type} (k : Kind α) (ok : Nat → Prop) (w : World) : Rows k ok w none 0 0 [] := ⟨rfl, Nat.le_refl _, Nat.zero_le _, fun _ h => (by cases h), fun h => by omega⟩
theorem Rows.mv {α : Type} {k : Kind α} {ok ok' : Nat → Prop} {w w' : World} {A : Option Addr} {n c : Nat} {l : List α} (h : Rows k ok w A n c l) (m : Mv w w' ok ok') : Rows k ok' w' A n c l := by
  refine ⟨h.len, h.cap, h.max, h.pl, fun hn => ?_⟩
  obtain ⟨g, off, h1, h2, h3, h4⟩ := h.at_ hn
  obtain ⟨k1, k2⟩ := m.keep g h2 h3
  refine ⟨g, off, h1, Nat.lt_of_lt_of_le h2 m.sz, k2, fun i x hx => ?_⟩
  obtain ⟨cs, e1, e2⟩ := h4 i x hx
  exact ⟨cs, k.mv m e1, fun j u hu => (World.cell?_of_block (a := ⟨g, _, none⟩) k1).trans (e2 j u hu)⟩
theorem Rows.addr {α : Type} {k : Kind α} {ok : Nat → Prop} {w : World} {A : Option Addr} {n c : Nat} {l : List α} (h : Rows k ok w A n c l) : 0 < n → ∃ g off, A = some ⟨g, off, none⟩ := fun hn => by
  obtain ⟨g, off, h1, _⟩ := h.at_ hn
  exact ⟨g, off, h1⟩
theorem Rows.le {α : Type} {k : Kind α} {ok : Nat → Prop} {w : World} {A : Option Addr} {n c : Nat} {l : List α} (h : Rows k ok w A n c l) : n ≤ maxLen := Nat.le_trans h.cap h.max
/-- A piece of it. -/
theorem Rows.cut {α : Type} {k : Kind α} {ok : Nat → Prop} {w : World} {A : Option Addr} {n c : Nat} {l : List α} (h : Rows k ok w A n c l) {a b : Nat} (hab : a ≤ b) (hb : b ≤ n) :
    ∃ B, cutV k.sz A c (a : Int) (b : Int) = some (.slice B (b - a) (c - a)) ∧ Rows k ok w B (b - a) (c - a) ((l.take b).drop a) := by
  have hc := h.cap
  have hl := h.len
  have hlen : ((l.take b).drop a).length = b - a := by simp; omega
  have fin : ∀ B : Option Addr, (∀ ad : Addr, B = some ad → 0 < c - a → ad.spot = none) → (∀ g off, A = some ⟨g, off, none⟩ → 0 < b - a → B = some ⟨g, off + a * k.sz, none⟩) → Rows k ok w B (b - a) (c - a) ((l.take b).drop a) := by
    intro B hp hB
    refine ⟨hlen, by omega, by have := h.max; omega, hp, fun hn => ?_⟩
    obtain ⟨g, off, h1, h2, h3, h4⟩ := h.at_ (by omega)
    refine ⟨g, off + a * k.sz, hB g off h1 hn, h2, h3, fun i x hx => ?_⟩
    rw [List.getElem?_drop, List.getElem?_take] at hx
    split at hx
    · obtain ⟨cs, e1, e2⟩ := h4 (a + i) x hx
      exact ⟨cs, e1, fun j u hu => by
        rw [← e2 j u hu, Nat.add_mul]
        congr 2
        omega⟩
    · cases hx
  unfold cutV
  rw [if_pos ⟨by omega, by omega, by omega⟩]
  simp only [Int.toNat_natCast]
  split
  · rename_i hca
    refine ⟨A, rfl, fin A (fun _ _ _ => by omega) fun g off hA hn => ?_⟩
    omega
  · cases hA : A with
    | none => exact ⟨none, rfl, fin none (fun _ h => by cases h) fun g off hA2 _ => by rw [hA] at hA2; cases hA2⟩
    | some ad =>
      obtain ⟨g, off, sp⟩ := ad
      have hsp := h.pl _ hA (by omega)
      simp only at hsp
      subst hsp
      refine ⟨some ⟨g, off + a * k.sz, none⟩, rfl, fin _ (fun ad h _ => by injection h with h; subst h; rfl) fun g' off' hA2 _ => ?_⟩
      rw [hA] at hA2
      injection hA2 with hA2
      injection hA2 with e1 e2
      subst e1 e2
      rfl
section
variable {w0 : Fr} {w w' : OW} {R : Value → World → Prop} {Pn : List PanicEntry → World → Prop} {Bk : Back} {ρ : List Value} {t : Tree} {α : Type}
theorem sat_idx {s ix : At} {sz n c : Nat} {A : Option Addr} {kk : IntKind} (i : Nat) (hs : s.den ρ [] = .slice A n c) (hi : ix.den ρ [] = .int kk (i : Int)) (hlt : i < n) (hA : 0 < n → ∃ g off, A = some ⟨g, off, none⟩)
    (h : ∀ g o, A = some ⟨g, o, none⟩ → satB Try.prog w0 R Pn Bk t (ρ ++ [.pointer (some ⟨g, o + i * sz, none⟩)]) w) : satB Try.prog w0 R Pn Bk (.prim (.idx sz) [s, ix] t) ρ w := by
  obtain ⟨g, o, e⟩ := hA (by omega)
  refine ⟨.pointer (some ⟨g, o + i * sz, none⟩), ?_, h g o e⟩
  simp only [denL, List.map_cons, List.map_nil, hs, hi, e, Prim.ev]
  rw [if_pos ⟨by omega, by omega⟩]
  simp
theorem sat_rowN {e : TypeId} {cs : List At} {n : Nat} {k : List At} (vs : List Value) (hcs : denL ρ [] cs = vs) (hk : ∀ x ∈ k, (x.den ρ []).oneCell' = true)
    (h : ∀ w1 : OW, Le w0 w ⟨w1.alloc (.cells vs.toArray e), w1.own, w1.bld⟩ → Box (w1.alloc (.cells vs.toArray e)) w1.heap.size vs e → NB ⟨w1.alloc (.cells vs.toArray e), w1.own, w1.bld⟩ w1.heap.size → satB Try.prog w0 R Pn Bk t (ρ ++ [.slice (some ⟨w1.heap.size, 0, none⟩) n n]) ⟨w1.alloc (.cells vs.toArray e), w1.own, w1.bld⟩) : satB Try.prog w0 R Pn Bk (.row e cs n k t) ρ w := by
  refine ⟨hk, fun w' hl => .inl ?_⟩
  rw [hcs]
  exact h w' (hl.trans (Le.of hl.wf hl.b (by go_grown))) (Box.new w'.toWorld vs e) ⟨fun e => by have := (hl.wf.own _ e).2; omega, fun e => by have := (hl.wf.bld _ e).2.1; omega⟩
theorem load_range {ty : TypeId} {sz : Nat} (hs : szOf Try.prog ty = some sz) (hr : rowB Try.prog ty = some true) {g off : Nat} {cs : List Value} {w : World} (hc : ∀ (j : Nat) u, cs[j]? = some u → w.cell? ⟨g, off + j, none⟩ = some u) (hl : cs.length = sz) :
    (loadVar ty ⟨g, off, none⟩).run Try.prog w = .ok (.agg cs.toArray) w := by
  unfold rowB at hr
  obtain ⟨d, hd, hr⟩ := Option.map_eq_some_iff.1 hr
  unfold szOf at hs
  exact run_loadVar_mid (P := Try.prog) w g off ty _ d hc hd hr (by rw [hs]; simp [hl])
theorem load_one {ty : TypeId} (hr : rowB Try.prog ty = some false) {g off : Nat} {u : Value} {w : World} (hc : w.cell? ⟨g, off, none⟩ = some u) :
    (loadVar ty ⟨g, off, none⟩).run Try.prog w = .ok u w := by
  unfold rowB at hr
  obtain ⟨d, hd, hr⟩ := Option.map_eq_some_iff.1 hr
  have hagg : (isAgg ty).run Try.prog w = .ok false w := by
    unfold isAgg
    rw [Sem.run_bind, run_underlying hd w]
    cases d <;> simp_all
  simp [loadVar, Sem.run_bind, hagg, hc]
theorem BelowF.box {w0 : Fr} {w : World} (h : BelowF w0 w) {g : Nat} {vs : List Value} {ty : TypeId} (hB : Box w0.toWorld g vs ty) (hg : g ∉ w0.fr) : Box w g vs ty := by
  have hl := hB.lt
  unfold Box at *
  rw [h.block g hl hg]
  exact hB
/-- An element is loaded whole. -/
theorem sat_el {k : Kind α} {l : List α} {A : Option Addr} {n c : Nat} {ty : TypeId} {x : At} {g o i sz : Nat} (hR : Rows k (NB w) w.toWorld A n c l) (hA : A = some ⟨g, o, none⟩) {e : α} (he : l[i]? = some e) (hsz : k.sz = sz) (hx : x.den ρ [] = .pointer (some ⟨g, o + i * sz, none⟩))
    (h1 : szOf Try.prog ty = some sz) (h2 : rowB Try.prog ty = some true) (h : ∀ cs, k.El (NB w) w.toWorld cs e → satB Try.prog w0 R Pn Bk t (ρ ++ cs) w) : satB Try.prog w0 R Pn Bk (.load ty x (.ag sz) t) ρ w := by
  subst hsz
  have hn : 0 < n := by have := (List.getElem?_eq_some_iff.1 he).1; have := hR.len; omega
  obtain ⟨g', o', h3, h4, h5, h6⟩ := hR.at_ hn
  rw [hA] at h3
  injection h3 with h3
  injection h3 with e1 e2
  subst e1 e2
  obtain ⟨cs, e3, e4⟩ := h6 i e he
  refine sat_load cs _ hx (k.len e3) (fun w' hl => ?_) (h cs e3)
  have hb := hl.keep g h4 h5.1 h5.2
  have := load_range h1 h2 (cs := cs) (w := w'.toWorld) (g := g) (off := o + i * k.sz) (fun j u hu => (World.cell?_of_block (a := ⟨g, _, none⟩) hb).trans (e4 j u hu)) (k.len e3)
  simp only [Sh.val]
  rw [List.take_of_length_le (by rw [k.len e3]; exact Nat.le_refl _)]
  exact this
/-- A part of an element is loaded. -/
theorem sat_elf {k : Kind α} {l : List α} {A : Option Addr} {n c : Nat} {ty : TypeId} {x : At} {g o i sz d m : Nat} (hR : Rows k (NB w) w.toWorld A n c l) (hA : A = some ⟨g, o, none⟩) {e : α} (he : l[i]? = some e) (hsz : k.sz = sz) (hdm : d + m ≤ sz) (hx : x.den ρ [] = .pointer (some ⟨g, o + i * sz + d, none⟩))
    (h1 : szOf Try.prog ty = some m) (h2 : rowB Try.prog ty = some true) (h : ∀ cs, k.El (NB w) w.toWorld cs e → satB Try.prog w0 R Pn Bk t (ρ ++ (cs.drop d).take m) w) : satB Try.prog w0 R Pn Bk (.load ty x (.ag m) t) ρ w := by
  subst hsz
  have hn : 0 < n := by have := (List.getElem?_eq_some_iff.1 he).1; have := hR.len; omega
  obtain ⟨g', o', h3, h4, h5, h6⟩ := hR.at_ hn
  rw [hA] at h3
  injection h3 with h3
  injection h3 with e1 e2
  subst e1 e2
  obtain ⟨cs, e3, e4⟩ := h6 i e he
  have hlm : ((cs.drop d).take m).length = m := by simp [k.len e3]; omega
  refine sat_load _ _ hx hlm (fun w' hl => ?_) (h cs e3)
  have hb := hl.keep g h4 h5.1 h5.2
  have := load_range h1 h2 (cs := (cs.drop d).take m) (w := w'.toWorld) (g := g) (off := o + i * k.sz + d) (fun j u hu => by
    rw [List.getElem?_take] at hu
    split at hu
    · rw [List.getElem?_drop] at hu
      rw [Nat.add_assoc]
      exact (World.cell?_of_block (a := ⟨g, _, none⟩) hb).trans (e4 (d + j) u hu)
    · cases hu) hlm
  simp only [Sh.val]
  rw [List.take_of_length_le (by rw [hlm]; exact Nat.le_refl _)]
  exact this
/-- A cell of an element is loaded. -/
theorem sat_elc {k : Kind α} {l : List α} {A : Option Addr} {n c : Nat} {ty : TypeId} {x : At} {g o i sz d : Nat} (hR : Rows k (NB w) w.toWorld A n c l) (hA : A = some ⟨g, o, none⟩) {e : α} (he : l[i]? = some e) (hsz : k.sz = sz) (hx : x.den ρ [] = .pointer (some ⟨g, o + i * sz + d, none⟩))
    (h2 : rowB Try.prog ty = some false) (h : ∀ cs, k.El (NB w) w.toWorld cs e → ∃ u, cs[d]? = some u ∧ satB Try.prog w0 R Pn Bk t (ρ ++ [u]) w) : satB Try.prog w0 R Pn Bk (.load ty x .one t) ρ w := by
  subst hsz
  have hn : 0 < n := by have := (List.getElem?_eq_some_iff.1 he).1; have := hR.len; omega
  obtain ⟨g', o', h3, h4, h5, h6⟩ := hR.at_ hn
  rw [hA] at h3
  injection h3 with h3
  injection h3 with e1 e2
  subst e1 e2
  obtain ⟨cs, e3, e4⟩ := h6 i e he
  obtain ⟨u, hu, hs⟩ := h cs e3
  refine sat_load [u] _ hx rfl (fun w' hl => ?_) hs
  have hb := hl.keep g h4 h5.1 h5.2
  exact load_one h2 ((World.cell?_of_block (a := ⟨g, _, none⟩) hb).trans (e4 d u hu))
end
theorem Rows.any {α : Type} {k : Kind α} {ok : Nat → Prop} {w : World} {A : Option Addr} {n c : Nat} {l : List α} (h : Rows k ok w A n c l) : Rows k (fun _ => True) w A n c l := h.mv (Mv.weak fun _ _ _ => trivial)
theorem Rows.start {α : Type} {k : Kind α} {w : World} {A : Option Addr} {n c : Nat} {l : List α} (h : Rows k (fun _ => True) w A n c l) : Rows k (NB ⟨w, [], []⟩) w A n c l := h.mv (Mv.weak fun _ _ _ => ⟨by simp, by simp⟩)
theorem Rows.below {α : Type} {k : Kind α} {ok : Nat → Prop} {w w' : World} {A : Option Addr} {n c : Nat} {l : List α} (h : Rows k ok w A n c l) (hb : Below w.heap.size w w') : Rows k ok w' A n c l := h.mv (Mv.below hb _)
theorem wrap_succ {i n : Nat} (h : i < n) (hn : n ≤ maxLen) : IntKind.i64.wrap ((i : Int) + 1) = ((i + 1 : Nat) : Int) := by
  simp only [maxLen] at hn
  rw [IntWalk.i64_in _ (by omega)]
  omega
/-- Dyads as elements. -/
def kD : Kind Dy where
  sz := 3
  El _ w cs d := ∃ A n c, cs = [.bool d.neg, .slice A n c, .int .i64 d.e] ∧ RdD w (.agg #[.bool d.neg, .slice A n c, .int .i64 d.e]) d
  len := by rintro _ _ _ _ ⟨A, n, c, rfl, _⟩; rfl
  mv := by
    rintro _ _ _ _ _ _ m ⟨A, n, c, rfl, A', n', c', h1, h2, h3⟩
    exact ⟨A, n, c, rfl, A', n', c', h1, m.rd (by decide) h2, h3⟩
  okc := by
    rintro _ _ _ _ ⟨A, n, c, rfl, _⟩ u hu
    simp only [List.mem_cons, List.not_mem_nil, or_false] at hu
    rcases hu with rfl | rfl | rfl
    · exact okB _
    · exact okS _ _ _
    · exact okI _
/-- A row literal, read as a list of one. -/
theorem rows_one {α : Type} {k : Kind α} {ok : Nat → Prop} {w : World} {g : Nat} {cs : List Value} {t : TypeId} {x : α} (hB : Box w g cs t) (ho : ok g) (he : k.El ok w cs x) : Rows k ok w (some ⟨g, 0, none⟩) 1 1 [x] := by
  refine ⟨rfl, Nat.le_refl _, by decide, fun ad h _ => by injection h with h; subst h; rfl, fun _ => ⟨g, 0, rfl, hB.lt, ho, fun i y hy => ?_⟩⟩
  cases i with
  | zero =>
    simp only [List.getElem?_cons_zero, Option.some.injEq] at hy
    subst hy
    exact ⟨cs, he, fun j u hu => by rw [hB.get]; simpa using hu⟩
  | succ i => simp at hy
theorem rows_two {α : Type} {k : Kind α} {ok : Nat → Prop} {w : World} {g : Nat} {cs ds : List Value} {t : TypeId} {x y : α} (hB : Box w g (cs ++ ds) t) (ho : ok g) (hx : k.El ok w cs x) (hy : k.El ok w ds y) : Rows k ok w (some ⟨g, 0, none⟩) 2 2 [x, y] := by
  have hl := k.len hx
  refine ⟨rfl, Nat.le_refl _, by decide, fun ad h _ => by injection h with h; subst h; rfl, fun _ => ⟨g, 0, rfl, hB.lt, ho, fun i z hz => ?_⟩⟩
  match i, hz with
  | 0, hz =>
    simp only [List.getElem?_cons_zero, Option.some.injEq] at hz
    subst hz
    exact ⟨cs, hx, fun j u hu => by rw [hB.get, Nat.zero_mul, Nat.zero_add, List.getElem?_append_left (List.getElem?_eq_some_iff.1 hu).1]; exact hu⟩
  | 1, hz =>
    simp only [List.getElem?_cons_succ, List.getElem?_cons_zero, Option.some.injEq] at hz
    subst hz
    exact ⟨ds, hy, fun j u hu => by rw [hB.get, Nat.one_mul, Nat.zero_add, List.getElem?_append_right (by omega), hl, Nat.add_sub_cancel_left]; exact hu⟩
  | i + 2, hz => simp at hz
end Sx
end Go.Proofs.Ytpkfjfpknbhekaa
