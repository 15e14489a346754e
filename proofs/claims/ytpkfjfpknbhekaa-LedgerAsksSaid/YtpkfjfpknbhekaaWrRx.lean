/- A reader: a variable that holds a row of bytes, from which functions take through a pointer. ledger's reader: byte, num. ledger's reader: dyad, ival. Printed by wip/mk_WrT.py. ledger's reader: tube, read, Get$2, Get$3. Printed by wip/mk_WrU.py. ledger.Get: what it defers. ledger.Get. sluicewaylaw21.told. -/
import Derived.Test.YtpkfjfpknbhekaaWrMx
import Derived.Test.YtpkfjfpknbhekaaWrCx
namespace Go.Proofs.Ytpkfjfpknbhekaa
open Go.RowKit Pl
namespace Sx
def wrongE : PanicEntry := { v := .iface 77 (.agg #[]), recovered := false }
/-- A kind whose rows are of the call's own making. -/
def kF {α : Type} (b : Nat) (k : Kind α) : Kind α where
  sz := k.sz
  ik := k.ik
  El ok w cs x := k.El (fun q => b ≤ q ∧ ok q) w cs x
  len := fun h => k.len h
  mv := fun m h => k.mv ⟨m.rd, m.sz, fun g hg ho => ⟨(m.keep g hg ho.2).1, ho.1, (m.keep g hg ho.2).2⟩⟩ h
  okc := fun h => k.okc h
theorem Rows.ofF {α : Type} {k : Kind α} {b : Nat} {ok : Nat → Prop} {w : World} {A : Option Addr} {n c : Nat} {l : List α} (h : Rows (kF b k) ok w A n c l) : Rows k ok w A n c l := by
  refine ⟨h.len, h.cap, h.max, h.pl, fun hn => ?_⟩
  obtain ⟨g, off, h1, h2, h3, h4⟩ := h.at_ hn
  refine ⟨g, off, h1, h2, h3, fun i x hx => ?_⟩
  obtain ⟨cs, i1, i2⟩ := h4 i x hx
  exact ⟨cs, k.mv (Mv.weak fun _ _ hq => hq.2) i1, i2⟩
theorem Lf.mvF {w0 : Fr} {w w' : OW} {b : Nat} (h : Lf w0 w w') (hk : w0.nk .u64 = false := by rfl) : Mv w.toWorld w'.toWorld (fun q => b ≤ q ∧ NB w q) (fun q => b ≤ q ∧ NB w' q) :=
  ⟨(h.mv hk).rd, (h.mv hk).sz, fun g hg ho => ⟨((h.mv hk).keep g hg ho.2).1, ho.1, ((h.mv hk).keep g hg ho.2).2⟩⟩
theorem Le.mvF {w0 : Fr} {w w' : OW} {b : Nat} (h : Le w0 w w') (hk : w0.nk .u64 = false := by rfl) : Mv w.toWorld w'.toWorld (fun q => b ≤ q ∧ NB w q) (fun q => b ≤ q ∧ NB w' q) := h.toLf.mvF hk
def nkI : IntKind → Bool := fun K => K == .i64
def nkM : IntKind → Bool := fun K => K == .i64 || K == .u64
def rfr (nk : IntKind → Bool) (hn : nk .i64 = true) (w : World) (g : Nat) : Fr := ⟨w, [g], nk, hn, [], w.heap.size, Nat.le_refl _, []⟩
/-- A reader in memory. -/
def RdW (ty : TypeId) (w : World) (g : Nat) (b : List Nat) : Prop := ∃ A c, Box w g [.slice A b.length c] ty ∧ RdN .u8 w A b.length c b ∧ ∀ x ∈ b, x < 256
structure RdS (ty : TypeId) (w0 : Fr) (w : OW) (g : Nat) (b : List Nat) : Prop where
  bg : g ∈ w.bld
  nk : w0.nk .u8 = false
  rd : RdW ty w.toWorld g b
theorem RdW.lt {ty : TypeId} {w : World} {g : Nat} {b : List Nat} (h : RdW ty w g b) : g < w.heap.size := by
  obtain ⟨A, c, hB, _⟩ := h
  exact hB.lt
/-- What a function leaves that reads. -/
def RdOut {X : Type} (ty : TypeId) (w : World) (g : Nat) (p : Option (X × List Nat)) (RV : World → X → World → Value → Prop) (e : Ending) (w' : World) : Prop :=
  (∃ x b' u, p = some (x, b') ∧ e = .returned u ∧ RV w x w' u ∧ RdW ty w' g b' ∧ BelowF (rfr nkI rfl w g) w') ∨ (p = none ∧ e = .panicked [wrongE] ∧ BelowF (rfr nkI rfl w g) w')
theorem RdS.le {ty : TypeId} {w0 : Fr} {w w' : OW} {g : Nat} {b : List Nat} (h : RdS ty w0 w g b) (hl : Le w0 w w') : RdS ty w0 w' g b := by
  obtain ⟨A, c, h1, h2, h3⟩ := h.rd
  exact ⟨hl.bld g h.bg, h.nk, A, c, by unfold Box; rw [hl.keepB g h.bg]; exact h1, hl.rdk h.nk h2, h3⟩
theorem RdS.app {ty : TypeId} {w0 : Fr} {w w' : OW} {g : Nat} {b : List Nat} {s s' : Value} (h : RdS ty w0 w g b) (a : App w0 w w' s s') (hne : s.ownBlock ≠ some g) : RdS ty w0 w' g b := by
  obtain ⟨A, c, h1, h2, h3⟩ := h.rd
  exact ⟨a.bld g h.bg, h.nk, A, c, by unfold Box; rw [a.keepB g h.bg hne]; exact h1, a.rdk h.nk h2, h3⟩
/-- A call of a function that reads. -/
theorem RdW.eff {ty : TypeId} {w0 : Fr} {w : OW} {w2 : World} {g : Nat} {b : List Nat} (hw : WF w0 w) (hb : BelowF w0 w.toWorld) (h : RdW ty w.toWorld g b) (hg : g ∈ w.bld) (p : BelowF (rfr nkI rfl w.toWorld g) w2) :
    Eff w0 w ⟨w2, w.own, w.bld⟩ ∧ ∀ q, q < w.heap.size → q ≠ g → w2.heap[q]? = w.heap[q]? := by
  have keep : ∀ q, q < w.heap.size → q ≠ g → w2.heap[q]? = w.heap[q]? := fun q hq hn => p.block q hq (by show q ∉ [g]; simpa using hn)
  have hsz : w.heap.size ≤ w2.heap.size := p.size
  refine ⟨⟨⟨fun {K A n c xs} hK hr => ⟨hr.len, hr.cap, hr.max, fun hn => ?_⟩, hb.trans (w1 := rfr nkI rfl w.toWorld g) p (fun q hq => by obtain rfl := List.mem_singleton.1 (show q ∈ [g] from hq); exact (hw.bld q hg).1), hsz, fun q hq h1 h2 => keep q hq (fun e => h2 (e ▸ hg)), fun _ h => h, fun _ h => .inl h, fun _ h => h, fun _ h => .inl h, hw.mono hsz⟩, fun q hq => keep q (hw.own q hq).2 (fun e => (hw.bld g hg).2.2 (e ▸ hq)), rfl⟩, keep⟩
  obtain ⟨bb, off, hA, hbl, hc⟩ := hr.at_ hn
  have hne : bb ≠ g := by
    rintro rfl
    obtain ⟨A', c', hB, _⟩ := h
    have h1 := hc 0 hn
    rw [hB.get] at h1
    have := List.mem_of_getElem? h1
    rw [List.mem_singleton] at this
    cases this
  exact ⟨bb, off, hA, Nat.lt_of_lt_of_le hbl hsz, fun k hk => (World.cell?_of_block (a := ⟨bb, _, none⟩) (keep bb hbl hne)).trans (hc k hk)⟩
/-- A row that a call builds, beside the reader. -/
structure GrN {α : Type} (k : Kind α) (w0 : Fr) (e : TypeId) (w : OW) (s : Value) (l : List α) (g : Nat) : Prop where
  gr : Gr k w0 e w s l
  ne : s.ownBlock ≠ some g
theorem GrN.le {α : Type} {k : Kind α} {w0 : Fr} {e : TypeId} {w w' : OW} {s : Value} {l : List α} {g : Nat} (h : GrN k w0 e w s l g) (hl : Le w0 w w') : GrN k w0 e w' s l g := ⟨h.gr.le hl, h.ne⟩
def Kept (w ow : OW) (g : Nat) : Prop := ∀ q ∈ w.bld, q ≠ g → ow.heap[q]? = w.heap[q]? ∧ q ∈ ow.bld
theorem GrN.rd {α : Type} {k : Kind α} {w0 : Fr} {e : TypeId} {w w' : OW} {s : Value} {l : List α} {g : Nat} (h : GrN k w0 e w s l g) (hl : Lf w0 w w') (hk : Kept w w' g) : GrN k w0 e w' s l g := by
  obtain ⟨hp, xs, i1, i2⟩ := h.gr
  have hb : ∀ q, s.ownBlock = some q → w'.heap[q]? = w.heap[q]? ∧ q ∈ w'.bld := fun q hq => hk q (i1.blk q hq) (fun e => h.ne (e ▸ hq))
  refine ⟨⟨hp, xs, ⟨⟨i1.row.1, ?_⟩, fun q hq => (hb q hq).2, fun q cur t x hq hc u hu => i1.ok q cur t x hq (by rw [← (hb q hq).1]; exact hc) u hu⟩, fun i x hx => k.mv (hl.mv hp.2.2) (i2 i x hx)⟩, h.ne⟩
  rcases i1.row.2 with hn | ⟨q, cap, cur, rfl, hl', hg, rest⟩
  · exact .inl hn
  · exact .inr ⟨q, cap, cur, rfl, hl', by rw [(hb q rfl).1]; exact hg, rest⟩
theorem App.ne {w0 : Fr} {w w' : OW} {s s' : Value} (a : App w0 w w' s s') {g : Nat} (hg : g < w.heap.size) (h : s.ownBlock ≠ some g) : s'.ownBlock ≠ some g := by
  rcases a.blk with e | e
  · rw [e]; exact h
  · rw [e]; intro e2; injection e2 with e2; omega
theorem GrN.app {α : Type} {k : Kind α} {w0 : Fr} {e : TypeId} {by' : Nat} {w : OW} {s : Value} {l l' : List α} {g0 : Nat} (h : GrN k w0 e w s l g0) {g off c : Nat} (hR : Rows k (NB w) w.toWorld (some ⟨g, off, none⟩) l'.length c l') (hg : g0 < w.heap.size) (h1 : l.length + l'.length ≤ maxLen) (h2 : (l.length + l'.length) * by' ≤ 140737488355328)
    {K : Value → OW → Prop} (hK : ∀ A c' w', App w0 w w' s (.slice A (l ++ l').length c') → GrN k w0 e w' (.slice A (l ++ l').length c') (l ++ l') g0 → K (.slice A (l ++ l').length c') w') :
    AppOk w0 e k.sz by' s (.slice (some ⟨g, off, none⟩) l'.length c) w K :=
  h.gr.app hR h1 h2 fun A c' w' hA hG => hK A c' w' hA ⟨hG, hA.ne hg h.ne⟩
/-- It is given back. -/
theorem GrN.done {α : Type} {k : Kind α} {nk : IntKind → Bool} {hn : nk .i64 = true} {w : World} {ow : OW} {e : TypeId} {A : Option Addr} {n c : Nat} {l : List α} {g : Nat} (h : GrN (kF w.heap.size k) (rfr nk hn w g) e ow (.slice A n c) l g) : Rows k (fun q => w.heap.size ≤ q) ow.toWorld A n c l :=
  (h.gr.done (fun {w' cs x} q => k.mv (Mv.weak (ok' := fun q => w.heap.size ≤ q ∧ w.heap.size ≤ q) fun _ _ hq => ⟨hq.1, hq.1⟩) q)).ofF
/-- A row of numbers that a call builds, beside the reader. -/
structure GnN (w0 : Fr) (w : OW) (s : Value) (xs : List Nat) (g : Nat) : Prop where
  nk : w0.nk .u64 = true
  row : OR w0 51 1 w s xs.length (U .u64 xs)
  ne : s.ownBlock ≠ some g
theorem GnN.le {w0 : Fr} {w w' : OW} {s : Value} {xs : List Nat} {g : Nat} (h : GnN w0 w s xs g) (hl : Le w0 w w') : GnN w0 w' s xs g := ⟨h.nk, h.row.le hl, h.ne⟩
theorem GnN.len {w0 : Fr} {w : OW} {s : Value} {xs : List Nat} {g : Nat} (h : GnN w0 w s xs g) : ∃ A c, s = .slice A xs.length c := by
  rcases h.row.row.2 with ⟨rfl, hn⟩ | ⟨g, cap, cur, rfl, _⟩
  · exact ⟨none, 0, by rw [hn]⟩
  · exact ⟨_, _, rfl⟩
theorem GnN.rd {w0 : Fr} {w w' : OW} {s : Value} {xs : List Nat} {g : Nat} (h : GnN w0 w s xs g) (hk : Kept w w' g) : GnN w0 w' s xs g := by
  have i1 := h.row
  have hb : ∀ q, s.ownBlock = some q → w'.heap[q]? = w.heap[q]? ∧ q ∈ w'.bld := fun q hq => hk q (i1.blk q hq) (fun e => h.ne (e ▸ hq))
  refine ⟨h.nk, ⟨⟨i1.row.1, ?_⟩, fun q hq => (hb q hq).2, fun q cur t x hq hc u hu => i1.ok q cur t x hq (by rw [← (hb q hq).1]; exact hc) u hu⟩, h.ne⟩
  rcases i1.row.2 with hn | ⟨q, cap, cur, rfl, hl', hg, rest⟩
  · exact .inl hn
  · exact .inr ⟨q, cap, cur, rfl, hl', by rw [(hb q rfl).1]; exact hg, rest⟩
section
variable {w0 : Fr} {w w' : OW} {R : Value → World → Prop} {Pn : List PanicEntry → World → Prop} {Bk : Back} {ρ : List Value} {t t' : Tree} {wty : TypeId}
theorem rd_after {X : Type} {ty : TypeId} {sh : Sh} {g : Nat} {b : List Nat} {p : Option (X × List Nat)} {RV : World → X → World → Value → Prop} {w1 : OW} {e : Ending} {w2 : World} (S : RdS ty w0 w g b) (h1 : Le w0 w w1) (hc : RdOut ty w1.toWorld g p RV e w2)
    (hp : p = none → ∀ w2, Pn [wrongE] w2)
    (k : ∀ (w1 ow : OW) x b' u, p = some (x, b') → Le w0 w w1 → Lf w0 w ow → RV w1.toWorld x ow.toWorld u → RdS ty w0 ow g b' → Kept w ow g → Mv ow.toWorld ow.toWorld (fun q => w1.heap.size ≤ q) (fun q => w0.heap.size ≤ q ∧ NB ow q) → ∃ l, sh.val l = u ∧ l.length = sh.len ∧ satB Try.prog w0 R Pn Bk t (ρ ++ l) ow) :
    (∃ l x ow, e = .returned x ∧ sh.val l = x ∧ l.length = sh.len ∧ ow.toWorld = w2 ∧ Eff w0 w1 ow ∧ (Lf w0 w ow → satB Try.prog w0 R Pn Bk t (ρ ++ l) ow)) ∨ ∃ c, e = .panicked c ∧ BelowF w0 w2 ∧ Pn c w2 := by
  have S1 := S.le h1
  rcases hc with ⟨x, b', u, e1, rfl, e3, e4, e5⟩ | ⟨e1, rfl, e5⟩
  · obtain ⟨hE, keep⟩ := S1.rd.eff h1.wf h1.b S1.bg e5
    have hl := h1.toLf.trans hE.toLf
    obtain ⟨l, l1, l2, l3⟩ := k w1 ⟨w2, w1.own, w1.bld⟩ x b' u e1 h1 hl e3 ⟨S1.bg, S.nk, e4⟩ (fun q hq hn => ⟨(keep q (h1.wf.bld q (h1.bld q hq)).2.1 hn).trans (h1.keepB q hq), h1.bld q hq⟩)
      (Mv.weak fun q _ hq => ⟨Nat.le_trans h1.b.size hq, (⟨fun e => by have := (h1.wf.own q e).2; omega, fun e => by have := (h1.wf.bld q e).2.1; omega⟩ : NB ⟨w2, w1.own, w1.bld⟩ q)⟩)
    exact .inl ⟨l, u, _, rfl, l1, l2, rfl, hE, fun _ => l3⟩
  · exact .inr ⟨_, rfl, (S1.rd.eff h1.wf h1.b S1.bg e5).1.b, hp e1 _⟩
theorem sat_rcall {X : Type} {ty : TypeId} {f : FuncId} {args : List Tm} {sh : Sh} {g : Nat} {b : List Nat} {p : Option (X × List Nat)} {RV : World → X → World → Value → Prop} (S : RdS ty w0 w g b) (vs : Array Value) (has : (args.map (Tm.den ρ [])).toArray = vs)
    (h : ∀ w1 : OW, Le w0 w w1 → RdW ty w1.toWorld g b → Calls Try.prog f vs w1.toWorld (RdOut ty w1.toWorld g p RV))
    (hp : p = none → ∀ w2, Pn [wrongE] w2)
    (k : ∀ (w1 ow : OW) x b' u, p = some (x, b') → Le w0 w w1 → Lf w0 w ow → RV w1.toWorld x ow.toWorld u → RdS ty w0 ow g b' → Kept w ow g → Mv ow.toWorld ow.toWorld (fun q => w1.heap.size ≤ q) (fun q => w0.heap.size ≤ q ∧ NB ow q) → ∃ l, sh.val l = u ∧ l.length = sh.len ∧ satB Try.prog w0 R Pn Bk t (ρ ++ l) ow) :
    satB Try.prog w0 R Pn Bk (.call f args sh t) ρ w :=
  sat_callE vs has fun w1 h1 => (h w1 h1 (S.le h1).rd).mono fun _ _ hc => rd_after S h1 hc hp k
theorem sat_rcallv {X : Type} {ty : TypeId} {x : At} {f : FuncId} {args : List Tm} {sh : Sh} {g : Nat} {b : List Nat} {first caps : Array Value} {p : Option (X × List Nat)} {RV : World → X → World → Value → Prop} (S : RdS ty w0 w g b) (hx : x.den ρ [] = .func (.func f) first caps) (hg : goodF Try.prog f = true) (vs : Array Value) (has : first ++ (args.map (Tm.den ρ [])).toArray ++ caps = vs)
    (h : ∀ w1 : OW, Le w0 w w1 → RdW ty w1.toWorld g b → Calls Try.prog f vs w1.toWorld (RdOut ty w1.toWorld g p RV))
    (hp : p = none → ∀ w2, Pn [wrongE] w2)
    (k : ∀ (w1 ow : OW) x b' u, p = some (x, b') → Le w0 w w1 → Lf w0 w ow → RV w1.toWorld x ow.toWorld u → RdS ty w0 ow g b' → Kept w ow g → Mv ow.toWorld ow.toWorld (fun q => w1.heap.size ≤ q) (fun q => w0.heap.size ≤ q ∧ NB ow q) → ∃ l, sh.val l = u ∧ l.length = sh.len ∧ satB Try.prog w0 R Pn Bk t (ρ ++ l) ow) :
    satB Try.prog w0 R Pn Bk (.callv x args sh t) ρ w :=
  sat_callvE hx hg vs has fun w1 h1 => (h w1 h1 (S.le h1).rd).mono fun _ _ hc => rd_after S h1 hc hp k
/-- A number is appended to a row of the call's own. -/
theorem sat_push64 {c s : At} {k : List At} {g j : Nat} {v : Value} {l b : List Nat} (x : Nat) (G : GnN w0 w v l g) (S : RdS wty w0 w g b) (hj : j = ρ.length) (hs : ∀ r, s.den (ρ ++ [r]) [] = v) (hc : c.den ρ [] = .int .u64 (x : Int)) (hk : ∀ y ∈ k, (y.den ρ []).oneCell' = true) (hlen : l.length + 1 ≤ 1000000)
    (K : ∀ r A c' ow, Lf w0 w ow → RdS wty w0 ow g b → GnN w0 ow (.slice A (l ++ [x]).length c') (l ++ [x]) g → satB Try.prog w0 R Pn Bk t (ρ ++ [r] ++ [.slice A (l ++ [x]).length c']) ow) :
    satB Try.prog w0 R Pn Bk (.row 51 [c] 1 k (.appk .u64 51 1 8 s (.lf j) t)) ρ w := by
  subst hj
  refine ⟨hk, fun w1 h1 => .inl ?_⟩
  have hcs : denL ρ [] [c] = [.int .u64 (x : Int)] := by simp [denL, hc]
  rw [hcs]
  have hB : Box (⟨w1.alloc (.cells [.int .u64 (x : Int)].toArray 51), w1.own, w1.bld⟩ : OW).toWorld w1.heap.size [.int .u64 (x : Int)] 51 := Box.new w1.toWorld [.int .u64 (x : Int)] 51
  have hL1 : Le w0 w1 ⟨w1.alloc (.cells [.int .u64 (x : Int)].toArray 51), w1.own, w1.bld⟩ := Le.of h1.wf h1.b (by go_grown)
  have hNB : NB ⟨w1.alloc (.cells [.int .u64 (x : Int)].toArray 51), w1.own, w1.bld⟩ w1.heap.size := ⟨fun e => by have := (h1.wf.own _ e).2; omega, fun e => by have := (h1.wf.bld _ e).2.1; omega⟩
  have hlt : w1.heap.size < (⟨w1.alloc (.cells [.int .u64 (x : Int)].toArray 51), w1.own, w1.bld⟩ : OW).heap.size := hB.lt
  generalize w1.heap.size = N at *
  generalize (⟨w1.alloc (.cells [.int .u64 (x : Int)].toArray 51), w1.own, w1.bld⟩ : OW) = wa at *
  have hL := h1.trans hL1
  refine ⟨G.nk, fun w2 h2 => ?_⟩
  have S2 := (S.le hL).le h2
  have G2 := (G.le hL).le h2
  have hB2 : Box w2.toWorld N [.int .u64 (x : Int)] 51 := by unfold Box; rw [h2.keep N hlt hNB.1 hNB.2]; exact hB
  rw [hs]
  have hden : (At.lf ρ.length).den (ρ ++ [Value.slice (some ⟨N, 0, none⟩) 1 1]) [] = .slice (some ⟨N, 0, none⟩) 1 1 := by simp [At.den]
  rw [hden]
  refine ⟨l.length, U .u64 l, some ⟨N, 0, none⟩, 1, 1, [.int .u64 (x : Int)], G2.row, rfl, rfl, .inl ⟨_, rfl, fun i u hu => ?_⟩, fun u hu => ?_, by unfold maxLen; omega, by omega, fun s' w3 hA hO => ?_⟩
  · rw [addr_at, Nat.zero_add]
    rw [hB2.get]
    exact hu
  · obtain rfl := List.mem_singleton.1 hu
    exact ⟨rfl, fun K n e => by injection e with e1 e2; rw [← e1]; exact G.nk⟩
  · have e : U .u64 (l ++ [x]) = U .u64 l ++ [.int .u64 (x : Int)] := by unfold U; rw [List.map_append]; rfl
    have hO' : OR w0 51 1 w3 s' (l ++ [x]).length (U .u64 (l ++ [x])) := by rw [List.length_append, e]; exact hO
    have hG : GnN w0 w3 s' (l ++ [x]) g := ⟨G.nk, hO', hA.ne S2.rd.lt G.ne⟩
    obtain ⟨A, c', rfl⟩ := hG.len
    exact K _ A c' w3 (hL.toLf.trans (h2.toLf.trans hA.toLf)) (S2.app hA G.ne) hG
end
/-- A function that reads. -/
theorem runR {X : Type} {ty : TypeId} {w : World} {g : Nat} {b : List Nat} {SP : Option (X × List Nat)} {RV : World → X → World → Value → Prop} (nk : IntKind → Bool) (hni : nk .i64 = true) (hn8 : nk .u8 = false) (hW : RdW ty w g b) (hv es : List Nat) {f : FuncId} {ls : List Value} {shs : List (Bool × Nat)} {t : Tree} (ht : treeEs Try.prog f [] hv es shs = some t) (hl : ls.length = (shs.map (·.2)).sum) (h1 : (shs.all fun c => c.1 || c.2 == 1) = true)
    (hs : RdS ty (rfr nk hni w g) ⟨w, [], [g]⟩ g b → sat Try.prog (rfr nk hni w g) (fun u w' => ∃ x b', SP = some (x, b') ∧ RV w x w' u ∧ RdW ty w' g b') (fun c _ => c = [wrongE] ∧ SP = none) t ls ⟨w, [], [g]⟩) : Calls Try.prog f (tupV ls shs).toArray w (RdOut ty w g SP RV) :=
  (runE (w0 := rfr nk hni w g) rfl (fun q hq => by obtain rfl := List.mem_singleton.1 (show q ∈ [g] from hq); exact hW.lt) [] hv es ht hl h1 (fun q h => by cases h) (hs ⟨List.mem_singleton.2 rfl, hn8, hW⟩)).mono fun e w' ⟨hb, h⟩ => by
    have hb' : BelowF (rfr nkI rfl w g) w' := ⟨hb.os, hb.tape, hb.output, hb.size, hb.block⟩
    rcases h with ⟨u, rfl, x, b', h1, h2, h3⟩ | ⟨c, rfl, rfl, h1⟩
    · exact .inl ⟨x, b', u, h1, rfl, h2, h3, hb'⟩
    · exact .inr ⟨h1, rfl, hb'⟩
end Sx
end Go.Proofs.Ytpkfjfpknbhekaa
namespace Go.Proofs.Ytpkfjfpknbhekaa
open Go.RowKit Pl
open Sx (sat_call sat_chk sat_prim sat_ite sat_true sat_false sat_trueP sat_falseP sat_ret sat_row sat_callP sat_loop sat_back sat_idx sat_el sat_elf sat_elc sat_load sat_rowN sat_app sat_callB sat_alt rows_one rows_two all_nil all_cons okB okS okI)
theorem and127_all : ((List.range 256).all fun x => bits .and .u8 ((x : Nat) : Int) 127 == ((x % 128 : Nat) : Int)) = true := by kernel_rfl
theorem pr_and127 {n : Nat} (hn : n < 256) : Sx.Prim.ev (.bin .and) [.int .u8 ((n : Nat) : Int), .int .u8 127] = some (.int .u8 ((n % 128 : Nat) : Int)) := by
  have h := List.all_eq_true.1 and127_all n (List.mem_range.2 hn)
  have h2 := eq_of_beq h
  show some (Value.int .u8 (bits .and .u8 ((n : Nat) : Int) 127)) = _
  rw [h2]
theorem i64_or_add {n y j : Nat} (hn : n < 2 ^ j) (hj : y % 2 ^ j = 0) (h : n + y < 9223372036854775808) : bits .or .i64 (n : Int) (y : Int) = ((n + y : Nat) : Int) := by
  show IntKind.i64.wrap ((BitVec.ofInt 64 (n : Int) ||| BitVec.ofInt 64 (y : Int)).toNat : Int) = _
  have e1 : (BitVec.ofInt 64 (n : Int)).toNat = n := by rw [BitVec.toNat_ofInt]; omega
  have e2 : (BitVec.ofInt 64 (y : Int)).toNat = y := by rw [BitVec.toNat_ofInt]; omega
  rw [BitVec.toNat_or, e1, e2, Nat.or_comm, nat_join j y n hj hn, Nat.add_comm, IntWalk.i64_in _ (by omega)]
theorem cut8 {w : World} {A : Option Addr} {c x : Nat} {b : List Nat} (h : RdN .u8 w A (b.length + 1) c (x :: b)) : ∃ B, Sx.cutV 1 A c 1 ((b.length + 1 : Nat) : Int) = some (.slice B b.length (c - 1)) ∧ RdN .u8 w B b.length (c - 1) b := by
  have hc := h.cap
  have hm := h.max
  obtain ⟨bb, off, rfl, hb, hcell⟩ := h.at_ (by omega)
  unfold Sx.cutV
  rw [if_pos ⟨by omega, by omega, by omega⟩]
  have e1 : ((b.length + 1 : Nat) : Int).toNat - (1 : Int).toNat = b.length := by omega
  have e2 : c - (1 : Int).toNat = c - 1 := by omega
  rw [e1, e2]
  by_cases h1 : c = (1 : Int).toNat
  · rw [if_pos h1]
    refine ⟨_, rfl, rfl, by omega, by omega, fun hn => ?_⟩
    have h1 : c = 1 := h1
    omega
  · rw [if_neg h1]
    refine ⟨some ⟨bb, off + 1, none⟩, rfl, rfl, by omega, by omega, fun hn => ⟨bb, off + 1, rfl, hb, fun k hk => ?_⟩⟩
    have := hcell (k + 1) (by omega)
    rw [show off + 1 + k = off + (k + 1) by omega]
    exact this
namespace Sx
/-- A number is loaded. -/
theorem sat_numK {w0 : Fr} {w : OW} {R : Value → World → Prop} {Pn : List PanicEntry → World → Prop} {Bk : Back} {ρ : List Value} {t : Tree} (K : IntKind) {ty : TypeId} {s ix : At} {kk : IntKind} {j n c i : Nat} {A : Option Addr} {xs : List Nat} (hj : j = ρ.length) (hk : w0.nk K = false) (hR : RdN K w.toWorld A n c xs) (hs : s.den ρ [] = .slice A n c) (hi : ix.den ρ [] = .int kk (i : Int)) (hlt : i < n) (h2 : rowB Try.prog ty = some false)
    (h : ∀ g o, satB Try.prog w0 R Pn Bk t (ρ ++ [.pointer (some ⟨g, o, none⟩)] ++ [.int K ((nth xs i : Nat) : Int)]) w) : satB Try.prog w0 R Pn Bk (.prim (.idx 1) [s, ix] (.loadm ty (.lf j) .one t)) ρ w := by
  subst hj
  obtain ⟨g, o, hA, _, _⟩ := hR.at_ (by omega)
  refine ⟨.pointer (some ⟨g, o + i * 1, none⟩), ?_, fun w' hl => ?_⟩
  · simp only [denL, List.map_cons, List.map_nil, hs, hi, hA, Prim.ev]
    rw [if_pos ⟨by omega, by omega⟩]
    simp
  · obtain ⟨g', o', hA', _, hc⟩ := (hl.rdk hk hR).at_ (by omega)
    rw [hA] at hA'
    injection hA' with hA'
    injection hA' with e1 e2
    subst e1 e2
    exact ⟨[.int K ((nth xs i : Nat) : Int)], ⟨g, o + i * 1, none⟩, rfl, by simp [At.den], load_one h2 (by rw [Nat.mul_one]; exact hc i hlt), sat_mono Try.prog (h g (o + i * 1)) hl⟩
end Sx

def tr_rbyte : Sx.Tree := .prim .nchk [.lf 0] (.prim (.fld 0) [.lf 1] (.loadm 29 (.lf 2) .one (.prim .len [.lf 3] (.prim (.bin .eql) [.lf 4, .num .i64 0] (.ite (.lf 5) (.prim (.ifc 77) [] (.pan (.lf 6))) (.prim .nchk [.lf 0] (.prim (.fld 0) [.lf 6] (.loadm 29 (.lf 7) .one (.prim (.idx 1) [.lf 8, .num .i64 0] (.loadm 5 (.lf 9) .one (.prim .nchk [.lf 0] (.prim (.fld 0) [.lf 11] (.loadm 29 (.lf 12) .one (.prim (.slc 1 true false) [.lf 13, .num .i64 1] (.prim .nchk [.lf 0] (.prim (.fld 0) [.lf 15] (.fst 29 (.lf 16) (.one (.lf 14)) (.ret (.one (.lf 10))))))))))))))))))))
theorem tr_rbyte_eq : Sx.treeEs Try.prog 82 [] [] [999999] [(false, 1)] = some tr_rbyte := by kernel_rfl

theorem rbyte_any (g : Nat) (b : List Nat) (w : World) (hW : Sx.RdW 80 w g b) : Calls Try.prog 82 #[.pointer (some ⟨g, 0, none⟩)] w (Sx.RdOut 80 w g (pbyte b) (fun _ x _ u => u = .int .u8 (x : Int))) := by
  refine Sx.runR Sx.nkI rfl rfl hW [] [999999] (ls := [.pointer (some ⟨g, 0, none⟩)]) (shs := [(false, 1)]) tr_rbyte_eq rfl (by decide) fun S0 => ?_
  unfold tr_rbyte
  obtain ⟨A, c, hB, hR, hl⟩ := S0.rd
  have hg := S0.bg
  refine sat_prim (v := .pointer (some ⟨g, 0, none⟩)) (by kernel_rfl) ?_
  refine sat_prim (v := .pointer (some ⟨g, 0 + 0, none⟩)) (by kernel_rfl) ?_
  refine Sx.sat_bload (off := 0) (.slice A b.length c) hB hg (by kernel_rfl) rfl (by kernel_rfl) ?_
  refine sat_prim (v := .int .i64 ((b.length : Nat) : Int)) (by kernel_rfl) ?_
  refine sat_prim (v := .bool (((b.length : Nat) : Int) == 0)) (by kernel_rfl) ?_
  cases b with
  | nil =>
    refine sat_trueP (b := (((([] : List Nat).length : Nat) : Int) == 0)) (by kernel_rfl) rfl ?_
    refine sat_prim (v := .iface 77 (.agg #[])) (by kernel_rfl) ?_
    exact ⟨_, _, rfl, fun _ _ => ⟨rfl, rfl⟩⟩
  | cons x b =>
    refine sat_falseP (b := ((((x :: b).length : Nat) : Int) == 0)) (by kernel_rfl) (by rw [List.length_cons]; exact beq_eq_false_iff_ne.2 (by omega)) ?_
    refine sat_prim (v := .pointer (some ⟨g, 0, none⟩)) (by kernel_rfl) ?_
    refine sat_prim (v := .pointer (some ⟨g, 0 + 0, none⟩)) (by kernel_rfl) ?_
    refine Sx.sat_bload (off := 0) (.slice A (x :: b).length c) hB hg (by kernel_rfl) rfl (by kernel_rfl) ?_
    refine Sx.sat_numK .u8 (kk := .i64) (j := 9) (xs := x :: b) (i := 0) (by kernel_rfl) rfl hR (by kernel_rfl) (by kernel_rfl) (by simp) (by kernel_rfl) fun g1 o1 => ?_
    refine sat_prim (v := .pointer (some ⟨g, 0, none⟩)) (by kernel_rfl) ?_
    refine sat_prim (v := .pointer (some ⟨g, 0 + 0, none⟩)) (by kernel_rfl) ?_
    refine Sx.sat_bload (off := 0) (.slice A (x :: b).length c) hB hg (by kernel_rfl) rfl (by kernel_rfl) ?_
    obtain ⟨B, e1, e2⟩ := cut8 hR
    refine sat_prim (v := .slice B b.length (c - 1)) (Eq.trans (by kernel_rfl) e1) ?_
    refine sat_prim (v := .pointer (some ⟨g, 0, none⟩)) (by kernel_rfl) ?_
    refine sat_prim (v := .pointer (some ⟨g, 0 + 0, none⟩)) (by kernel_rfl) ?_
    refine Sx.sat_fst1 (.slice B b.length (c - 1)) hB hg (by kernel_rfl) (by kernel_rfl) ((okS _ _ _).n _) rfl rfl (by kernel_rfl) fun ow h1 B1 keep bl => ?_
    exact sat_ret (.int .u8 (x : Int)) (by kernel_rfl) fun w9 h9 => ⟨x, b, rfl, rfl, B, c - 1, by unfold Box; rw [h9.keepB g (bl g hg)]; exact B1, h9.rdk rfl (h1.rdk rfl e2), fun y hy => hl y (List.mem_cons_of_mem _ hy)⟩

def tr_rnum : Sx.Tree := .loop 0 [.num .i64 0, .num .i64 0, .num .i64 0] (.call 82 [.one (.lf 0)] .one (.prim (.bin .and) [.lf 5, .num .u8 127] (.prim (.cvt .i64) [.lf 6] (.prim (.cvt .u64) [.lf 2] (.prim .shl [.lf 7, .lf 8] (.prim (.bin .or) [.lf 3, .lf 9] (.prim (.bin .gtr) [.lf 10, .lf 1] (.ite (.lf 11) (.prim (.ifc 77) [] (.pan (.lf 12))) (.prim (.bin .gtr) [.lf 2, .num .i64 35] (.ite (.lf 12) (.prim (.ifc 77) [] (.pan (.lf 13))) (.prim (.bin .lss) [.lf 5, .num .u8 128] (.ite (.lf 13) (.ret (.one (.lf 10))) (.prim (.bin .add) [.lf 2, .num .i64 7] (.back 0 [.lf 14, .lf 10, .lf 4]))))))))))))))
theorem tr_rnum_eq : Sx.treeEs Try.prog 45 [] [] [999999] [(false, 1), (false, 1)] = some tr_rnum := by kernel_rfl

theorem pow7_lt {j : Nat} (h : j ≤ 6) : 2 ^ (7 * j) ≤ 4398046511104 := by
  have := Nat.pow_le_pow_right (n := 2) (by omega) (show 7 * j ≤ 42 by omega)
  simpa using this
theorem pw7 {n j x : Nat} (hn : n < 2 ^ (7 * j)) : n + x % 128 * 2 ^ (7 * j) < 2 ^ (7 * (j + 1)) := by
  have h1 : x % 128 * 2 ^ (7 * j) ≤ 127 * 2 ^ (7 * j) := Nat.mul_le_mul_right _ (by omega)
  rw [show 7 * (j + 1) = 7 + 7 * j by omega, Nat.pow_add]
  omega
theorem rnum_any (g : Nat) (b : List Nat) (most : Nat) (hmost : most < 4611686018427387904) (w : World) (hW : Sx.RdW 80 w g b) : Calls Try.prog 45 #[.pointer (some ⟨g, 0, none⟩), .int .i64 ((most : Nat) : Int)] w (Sx.RdOut 80 w g (pnum most b) (fun _ x _ u => u = .int .i64 ((x : Nat) : Int) ∧ x ≤ most)) := by
  refine Sx.runR Sx.nkI rfl rfl hW [] [999999] (ls := [.pointer (some ⟨g, 0, none⟩), .int .i64 ((most : Nat) : Int)]) (shs := [(false, 1), (false, 1)]) tr_rnum_eq rfl (by decide) fun S0 => ?_
  unfold tr_rnum
  refine sat_loop (fun Kn vs W => ∃ (j n : Nat) (b' : List Nat), vs = [.int .i64 ((7 * j : Nat) : Int), .int .i64 ((n : Nat) : Int), .int .i64 0] ∧ Kn = 7 - j ∧ j ≤ 6 ∧ n < 2 ^ (7 * j) ∧ Sx.RdS 80 (Sx.rfr Sx.nkI rfl w g) W g b' ∧ pnum most b = pnumF most n j b') [.int .i64 0, .int .i64 0, .int .i64 0] (by kernel_rfl) (fun w1 h1 => ⟨_, 0, 0, b, rfl, rfl, by omega, by decide, S0.le h1, rfl⟩) ?_
  rintro Kn vs w1 h1 ⟨j, n, b1, rfl, rfl, hj, hn, S1, hsp⟩
  clear h1
  have h42 := pow7_lt hj
  refine Sx.sat_rcall (p := pbyte b1) S1 #[.pointer (some ⟨g, 0, none⟩)] (by kernel_rfl) (fun w2 h2 W2 => rbyte_any g b1 _ W2) (fun e _ => ⟨rfl, ?_⟩) (fun w2 o2 x b2 u e h2 l2 hu S2 _ _ => ?_)
  · rw [hsp]
    cases b1 with
    | nil => rfl
    | cons c b1 => cases e
  obtain ⟨A, c, _, _, hl1⟩ := S1.rd
  obtain rfl : b1 = x :: b2 := by
    cases b1 with
    | nil => cases e
    | cons c b1 => cases e; rfl
  have hx : x < 256 := hl1 x (List.mem_cons_self ..)
  clear h2 l2 e hl1
  subst hu
  refine ⟨[.int .u8 (x : Int)], rfl, rfl, ?_⟩
  have hs1 : x % 128 * 2 ^ (7 * j) ≤ 127 * 4398046511104 := Nat.mul_le_mul (by omega) h42
  refine sat_prim (v := .int .u8 ((x % 128 : Nat) : Int)) (Eq.trans (by kernel_rfl) (pr_and127 hx)) ?_
  refine sat_prim (v := .int .i64 ((x % 128 : Nat) : Int)) (Eq.trans (b := some (.int .i64 (IntKind.i64.wrap ((x % 128 : Nat) : Int)))) (by kernel_rfl) (by rw [IntWalk.i64_in _ (by omega)])) ?_
  refine sat_prim (v := .int .u64 ((7 * j : Nat) : Int)) (Eq.trans (by kernel_rfl) (pr_cvtn (n := 7 * j) (by omega))) ?_
  refine sat_prim (v := .int .i64 ((x % 128 * 2 ^ (7 * j) : Nat) : Int)) (Eq.trans (b := Sx.Prim.ev .shl [.int .i64 ((x % 128 : Nat) : Int), .int .u64 ((7 * j : Nat) : Int)]) (by kernel_rfl) (by
    show (if ((7 * j : Nat) : Int) < 0 then none else some (Value.int .i64 (IntKind.i64.wrap (((x % 128 : Nat) : Int) * 2 ^ Nat.min ((7 * j : Nat) : Int).toNat 64)))) = _
    rw [if_neg (by omega), Int.toNat_natCast, show Nat.min (7 * j) 64 = 7 * j from Nat.min_eq_left (by omega), show (2 : Int) ^ (7 * j) = ((2 ^ (7 * j) : Nat) : Int) by rw [Int.natCast_pow]; rfl, ← Int.natCast_mul, IntWalk.i64_in _ (by omega)])) ?_
  refine sat_prim (v := .int .i64 ((n + x % 128 * 2 ^ (7 * j) : Nat) : Int)) (Eq.trans (b := some (.int .i64 (bits .or .i64 ((n : Nat) : Int) ((x % 128 * 2 ^ (7 * j) : Nat) : Int)))) (by kernel_rfl) (by rw [i64_or_add hn (Nat.mul_mod_left ..) (by omega)])) ?_
  have hp7 := pw7 (x := x) hn
  generalize hq : n + x % 128 * 2 ^ (7 * j) = q at *
  have hsp2 : pnum most b = bif decide (most < q) || decide (5 < j) then none else bif decide (x < 128) then some (q, b2) else pnumF most q (j + 1) b2 := by rw [hsp, ← hq]; rfl
  refine sat_prim (v := .bool (decide (((most : Nat) : Int) < ((q : Nat) : Int)))) (by kernel_rfl) ?_
  by_cases c1 : most < q
  · refine sat_trueP (b := decide (((most : Nat) : Int) < ((q : Nat) : Int))) (by kernel_rfl) (decide_eq_true (by omega)) ?_
    refine sat_prim (v := .iface 77 (.agg #[])) (by kernel_rfl) ?_
    exact ⟨_, _, rfl, fun _ _ => ⟨rfl, by rw [hsp2, decide_eq_true c1]; rfl⟩⟩
  refine sat_falseP (b := decide (((most : Nat) : Int) < ((q : Nat) : Int))) (by kernel_rfl) (decide_eq_false (by omega)) ?_
  refine sat_prim (v := .bool (decide ((35 : Int) < ((7 * j : Nat) : Int)))) (by kernel_rfl) ?_
  by_cases c2 : 5 < j
  · refine sat_trueP (b := decide ((35 : Int) < ((7 * j : Nat) : Int))) (by kernel_rfl) (decide_eq_true (by omega)) ?_
    refine sat_prim (v := .iface 77 (.agg #[])) (by kernel_rfl) ?_
    exact ⟨_, _, rfl, fun _ _ => ⟨rfl, by rw [hsp2, decide_eq_true c2, Bool.or_true]; rfl⟩⟩
  refine sat_falseP (b := decide ((35 : Int) < ((7 * j : Nat) : Int))) (by kernel_rfl) (decide_eq_false (by omega)) ?_
  rw [decide_eq_false c1, decide_eq_false c2] at hsp2
  refine sat_prim (v := .bool (decide (((x : Nat) : Int) < 128))) (by kernel_rfl) ?_
  by_cases c3 : x < 128
  · refine sat_trueP (b := decide (((x : Nat) : Int) < 128)) (by kernel_rfl) (decide_eq_true (by omega)) ?_
    exact sat_ret (.int .i64 ((q : Nat) : Int)) (by kernel_rfl) fun w9 h9 => ⟨q, b2, by rw [hsp2, decide_eq_true c3]; rfl, ⟨rfl, by omega⟩, (S2.le h9).rd⟩
  refine sat_falseP (b := decide (((x : Nat) : Int) < 128)) (by kernel_rfl) (decide_eq_false (by omega)) ?_
  refine sat_prim (v := .int .i64 ((7 * (j + 1) : Nat) : Int)) (Eq.trans (b := some (.int .i64 (IntKind.i64.wrap (((7 * j : Nat) : Int) + 7)))) (by kernel_rfl) (by rw [IntWalk.i64_in _ (by omega)]; exact congrArg (fun z => some (Value.int .i64 z)) (by omega))) ?_
  exact sat_back [.int .i64 ((7 * (j + 1) : Nat) : Int), .int .i64 ((q : Nat) : Int), .int .i64 0] (by kernel_rfl) fun w9 h9 => ⟨_, by omega, j + 1, q, b2, rfl, rfl, by omega, hp7, S2.le h9, by rw [hsp2, decide_eq_false c3]; rfl⟩

end Go.Proofs.Ytpkfjfpknbhekaa
namespace Go.Proofs.Ytpkfjfpknbhekaa
open Go.RowKit Pl
open Sx (sat_call sat_chk sat_prim sat_ite sat_true sat_false sat_trueP sat_falseP sat_ret sat_row sat_callP sat_loop sat_back sat_idx sat_el sat_elf sat_elc sat_load sat_rowN sat_app sat_callB sat_alt rows_one rows_two all_nil all_cons okB okS okI)

theorem andP_assoc {α β γ : Type} {o : Option (α × List Nat)} {f : α → List Nat → Option (β × List Nat)} {h : β → List Nat → Option γ} : andP (andP o f) h = andP o fun x b => andP (f x b) h := by
  cases o with
  | none => rfl
  | some q => rfl
/-- What is behind a Dyad's limbs. -/
def pdyT (m : List Nat) (b2 : List Nat) : Option (Dy × List Nat) := andP (pbyte b2) fun c b3 => andP (pnum 2097153 b3) fun e b4 => some (⟨c == 1, m, expo e⟩, b4)
theorem p256 {i : Nat} (h : i < 8) : 256 ^ i * 256 ≤ 18446744073709551616 := by
  have := Nat.pow_le_pow_right (n := 256) (by omega) (show i + 1 ≤ 8 by omega)
  rw [Nat.pow_succ] at this
  exact this
theorem pr_shlb {x i : Nat} (hx : x < 256) (hi : i < 8) : Sx.Prim.ev .shl [.int .u64 (x : Int), .int .u64 ((8 * i : Nat) : Int)] = some (.int .u64 ((x * 256 ^ i : Nat) : Int)) := by
  show (if ((8 * i : Nat) : Int) < 0 then none else some (Value.int .u64 (IntKind.u64.wrap ((x : Int) * 2 ^ Nat.min ((8 * i : Nat) : Int).toNat 64)))) = _
  rw [if_neg (by omega), Int.toNat_natCast, show Nat.min (8 * i) 64 = 8 * i from Nat.min_eq_left (by omega), wrap_shl]
  have h1 := p256 hi
  have h2 : x * 256 ^ i < 18446744073709551616 := by
    have : x * 256 ^ i ≤ 255 * 256 ^ i := Nat.mul_le_mul_right _ (by omega)
    have h0 : 0 < 256 ^ i := Nat.pow_pos (by omega)
    omega
  rw [show 2 ^ (8 * i) = 256 ^ i by rw [Nat.pow_mul], Nat.mod_eq_of_lt (by unfold BB; exact h2)]
theorem or_byte {m x i : Nat} (hm : m < 256 ^ i) (hx : x < 256) (hi : i < 8) : Sx.Prim.ev (.bin .or) [.int .u64 (m : Int), .int .u64 ((x * 256 ^ i : Nat) : Int)] = some (.int .u64 ((m + x * 256 ^ i : Nat) : Int)) := by
  have h1 := p256 hi
  have h2 : x * 256 ^ i ≤ 255 * 256 ^ i := Nat.mul_le_mul_right _ (by omega)
  show some (Value.int .u64 (bits .or .u64 (m : Int) ((x * 256 ^ i : Nat) : Int))) = _
  have e : 256 ^ i = 2 ^ (8 * i) := by rw [Nat.pow_mul]
  rw [u64_or_nat _ _ (by omega) (by omega), Nat.or_comm, nat_join (8 * i) _ _ (by rw [e]; exact Nat.mul_mod_left ..) (by rw [← e]; exact hm), Nat.add_comm]
theorem lt_step {m x i : Nat} (hm : m < 256 ^ i) (hx : x < 256) : m + x * 256 ^ i < 256 ^ (i + 1) := by
  have h2 : x * 256 ^ i ≤ 255 * 256 ^ i := Nat.mul_le_mul_right _ (by omega)
  rw [Nat.pow_succ]
  omega
/-- A Dyad comes back. -/
def RvD (_ : World) (d : Dy) (w' : World) (u : Value) : Prop := ∃ A n c, u = .agg #[.bool d.neg, .slice A n c, .int .i64 d.e] ∧ RdD w' u d

def tr_rdy : Sx.Tree := .call 45 [.one (.lf 0), .one (.num .i64 64)] .one (.loop 0 [.lf 1, .bit false, .nil, .num .i64 0] (.prim (.bin .gtr) [.lf 2, .num .i64 0] (.ite (.lf 6) (.loop 1 [.num .i64 0, .num .u64 0, .lf 3, .lf 4, .lf 5] (.prim (.bin .lss) [.lf 7, .num .i64 8] (.ite (.lf 12) (.call 82 [.one (.lf 0)] .one (.prim (.cvt .u64) [.lf 13] (.prim (.bin .mul) [.num .i64 8, .lf 7] (.prim (.cvt .u64) [.lf 15] (.prim .shl [.lf 14, .lf 16] (.prim (.bin .or) [.lf 8, .lf 17] (.prim (.bin .add) [.lf 7, .num .i64 1] (.back 1 [.lf 19, .lf 18, .lf 9, .lf 10, .lf 11])))))))) (.row 51 [.lf 8] 1 [.lf 8] (.appk .u64 51 1 8 (.lf 10) (.lf 13) (.chk [.lf 14] (.prim (.bin .sub) [.lf 2, .num .i64 1] (.back 0 [.lf 15, .lf 9, .lf 14, .lf 11])))))))) (.call 82 [.one (.lf 0)] .one (.prim (.bin .eql) [.lf 7, .num .u8 1] (.chk [.lf 8] (.call 45 [.one (.lf 0), .one (.num .i64 2097153)] .one (.prim (.bin .quo) [.lf 9, .num .i64 2] (.chk [.lf 10] (.prim (.bin .rem) [.lf 9, .num .i64 2] (.prim (.bin .eql) [.lf 11, .num .i64 1] (.ite (.lf 12) (.prim .neg [.lf 10] (.prim (.bin .sub) [.lf 13, .num .i64 1] (.chk [.lf 14] (.chk [.lf 8, .lf 4, .lf 14] (.ret (.ag [.lf 8, .lf 4, .lf 14])))))) (.chk [.lf 8, .lf 4, .lf 10] (.ret (.ag [.lf 8, .lf 4, .lf 10])))))))))))))))
theorem tr_rdy_eq : Sx.treeEs Try.prog 46 [] [1] [999999] [(false, 1)] = some tr_rdy := by kernel_rfl

theorem rdy_any (g : Nat) (b : List Nat) (w : World) (hW : Sx.RdW 80 w g b) : Calls Try.prog 46 #[.pointer (some ⟨g, 0, none⟩)] w (Sx.RdOut 80 w g (pdy b) RvD) := by
  refine Sx.runR Sx.nkM rfl rfl hW [1] [999999] (ls := [.pointer (some ⟨g, 0, none⟩)]) (shs := [(false, 1)]) tr_rdy_eq rfl (by decide) fun S0 => ?_
  unfold tr_rdy
  refine Sx.sat_rcall (p := pnum 64 b) S0 #[.pointer (some ⟨g, 0, none⟩), .int .i64 64] (by kernel_rfl) (fun w2 h2 W2 => rnum_any g b 64 (by omega) _ W2) (fun e _ => ⟨rfl, by unfold pdy; exact andP_none e⟩) (fun w2 o2 n b2 u e h2 l2 hu S2 _ _ => ?_)
  obtain ⟨rfl, hn⟩ := hu
  have hsp : pdy b = andP (prep plimb n [] b2) pdyT := by unfold pdy; exact andP_some e
  clear h2 l2 e
  refine ⟨[.int .i64 ((n : Nat) : Int)], rfl, rfl, ?_⟩
  refine sat_loop (fun Kn vs W => ∃ (k : Nat) (acc b' : List Nat) (A : Option Addr) (c : Nat), vs = [.int .i64 ((k : Nat) : Int), .bool false, .slice A acc.length c, .int .i64 0] ∧ k = Kn ∧ k + acc.length ≤ 64 ∧ Lim BB acc ∧ Sx.RdS 80 (Sx.rfr Sx.nkM rfl w g) W g b' ∧ Sx.GnN (Sx.rfr Sx.nkM rfl w g) W (.slice A acc.length c) acc g ∧ pdy b = andP (prep plimb k acc b') pdyT) [.int .i64 ((n : Nat) : Int), .bool false, .slice none 0 0, .int .i64 0] (by kernel_rfl) (fun w1 h1 => ⟨_, n, [], b2, none, 0, rfl, rfl, by simpa using hn, fun _ h => (by cases h), S2.le h1, ⟨rfl, Sx.OR.nil _ _ _ _, fun e => by cases e⟩, hsp⟩) ?_
  rintro Kn vs w3 h3 ⟨k, acc, b3, A, c, rfl, rfl, hk, hlim, S3, G3, hsp3⟩
  clear hsp S2 h3
  refine sat_prim (v := .bool (decide ((0 : Int) < ((k : Nat) : Int)))) (by kernel_rfl) ?_
  cases k with
  | succ k =>
    refine sat_trueP (b := decide ((0 : Int) < ((k + 1 : Nat) : Int))) (by kernel_rfl) (decide_eq_true (by omega)) ?_
    have hspL : pdy b = andP (plimbF (8 - 0) 0 b3) (fun x b' => andP (prep plimb k (acc ++ [x]) b') pdyT) := by rw [hsp3]; exact andP_assoc
    refine sat_loop (fun Kn vs W => ∃ (i m : Nat) (b' : List Nat), vs = [.int .i64 ((i : Nat) : Int), .int .u64 ((m : Nat) : Int), .bool false, .slice A acc.length c, .int .i64 0] ∧ Kn = 8 - i ∧ i ≤ 8 ∧ m < 256 ^ i ∧ Sx.RdS 80 (Sx.rfr Sx.nkM rfl w g) W g b' ∧ Sx.GnN (Sx.rfr Sx.nkM rfl w g) W (.slice A acc.length c) acc g ∧ pdy b = andP (plimbF (8 - i) m b') (fun x b' => andP (prep plimb k (acc ++ [x]) b') pdyT)) [.int .i64 0, .int .u64 0, .bool false, .slice A acc.length c, .int .i64 0] (by kernel_rfl) (fun w1 h1 => ⟨_, 0, 0, b3, rfl, rfl, by omega, by decide, S3.le h1, G3.le h1, hspL⟩) ?_
    rintro Kn vs w4 h4 ⟨i, m, b4, rfl, rfl, hi, hm, S4, G4, hsp4⟩
    clear hsp3 S3 G3 h4 hspL
    refine sat_prim (v := .bool (decide (((i : Nat) : Int) < 8))) (by kernel_rfl) ?_
    by_cases hi8 : i < 8
    · refine sat_trueP (b := decide (((i : Nat) : Int) < 8)) (by kernel_rfl) (decide_eq_true (by omega)) ?_
      refine Sx.sat_rcall (p := pbyte b4) S4 #[.pointer (some ⟨g, 0, none⟩)] (by kernel_rfl) (fun w2 h2 W2 => rbyte_any g b4 _ W2) (fun e _ => ⟨rfl, ?_⟩) (fun w2 o5 x b5 u e h2 l2 hu S5 kp _ => ?_)
      · rw [hsp4]
        cases b4 with
        | nil => rw [show 8 - i = (7 - i) + 1 by omega]; rfl
        | cons c b1 => cases e
      obtain ⟨A4, c4, _, _, hl1⟩ := S4.rd
      obtain rfl : b4 = x :: b5 := by
        cases b4 with
        | nil => cases e
        | cons c b1 => cases e; rfl
      have hx : x < 256 := hl1 x (List.mem_cons_self ..)
      have G5 := G4.rd kp
      clear h2 l2 e hl1 G4 kp
      subst hu
      refine ⟨[.int .u8 (x : Int)], rfl, rfl, ?_⟩
      refine sat_prim (v := .int .u64 ((x : Nat) : Int)) (Eq.trans (by kernel_rfl) (pr_cvtn (n := x) (by omega))) ?_
      refine sat_prim (v := .int .i64 ((8 * i : Nat) : Int)) (Eq.trans (b := some (.int .i64 (IntKind.i64.wrap (8 * ((i : Nat) : Int))))) (by kernel_rfl) (sml (by omega) (by omega))) ?_
      refine sat_prim (v := .int .u64 ((8 * i : Nat) : Int)) (Eq.trans (by kernel_rfl) (pr_cvtn (n := 8 * i) (by omega))) ?_
      refine sat_prim (v := .int .u64 ((x * 256 ^ i : Nat) : Int)) (Eq.trans (by kernel_rfl) (pr_shlb hx hi8)) ?_
      refine sat_prim (v := .int .u64 ((m + x * 256 ^ i : Nat) : Int)) (Eq.trans (by kernel_rfl) (or_byte hm hx hi8)) ?_
      refine sat_prim (v := .int .i64 ((i + 1 : Nat) : Int)) (Eq.trans (b := some (.int .i64 (IntKind.i64.wrap (((i : Nat) : Int) + 1)))) (by kernel_rfl) (sml (by omega) (by omega))) ?_
      have hst := lt_step hm hx
      have hsp5 : pdy b = andP (plimbF (8 - (i + 1)) (m + x * 256 ^ i) b5) (fun x b' => andP (prep plimb k (acc ++ [x]) b') pdyT) := by
        rw [hsp4, show 8 - i = (7 - i) + 1 by omega, show 8 - (i + 1) = 7 - i by omega]
        show andP (plimbF (7 - i) (m + x * 256 ^ (7 - (7 - i))) b5) _ = _
        rw [show 7 - (7 - i) = i by omega]
      generalize m + x * 256 ^ i = q at *
      exact sat_back [.int .i64 ((i + 1 : Nat) : Int), .int .u64 ((q : Nat) : Int), .bool false, .slice A acc.length c, .int .i64 0] (by kernel_rfl) fun w9 h9 => ⟨_, by omega, i + 1, q, b5, rfl, rfl, by omega, hst, S5.le h9, G5.le h9, hsp5⟩
    · refine sat_falseP (b := decide (((i : Nat) : Int) < 8)) (by kernel_rfl) (decide_eq_false (by omega)) ?_
      obtain rfl : i = 8 := by omega
      have hsp5 : pdy b = andP (prep plimb k (acc ++ [m]) b4) pdyT := hsp4
      refine Sx.sat_push64 (j := 13) m G4 S4 (by kernel_rfl) (fun r => by kernel_rfl) (by kernel_rfl) (fun y hy => by obtain rfl := List.mem_singleton.1 hy; rfl) (by omega) fun r A' c' o5 l5 S5 G5 => ?_
      refine sat_chkB (by kernel_rfl) ?_
      refine sat_prim (v := .int .i64 ((k : Nat) : Int)) (Eq.trans (b := some (.int .i64 (IntKind.i64.wrap (((k + 1 : Nat) : Int) - 1)))) (by kernel_rfl) (sml (by omega) (by omega))) ?_
      exact Sx.sat_backO (d := 0) (d' := 1) rfl [.int .i64 ((k : Nat) : Int), .bool false, .slice A' (acc ++ [m]).length c', .int .i64 0] (by kernel_rfl) fun w9 h9 => ⟨_, by omega, k, acc ++ [m], b4, A', c', rfl, rfl, by rw [List.length_append]; simp only [List.length_cons, List.length_nil]; omega, fun x hx => by
        rcases List.mem_append.1 hx with hx | hx
        · exact hlim x hx
        · obtain rfl := List.mem_singleton.1 hx
          exact hm, S5.le h9, G5.le h9, hsp5⟩
  | zero =>
    refine sat_falseP (b := decide ((0 : Int) < ((0 : Nat) : Int))) (by kernel_rfl) rfl ?_
    have hsp5 : pdy b = pdyT acc b3 := hsp3
    refine Sx.sat_rcall (p := pbyte b3) S3 #[.pointer (some ⟨g, 0, none⟩)] (by kernel_rfl) (fun w2 h2 W2 => rbyte_any g b3 _ W2) (fun e _ => ⟨rfl, by rw [hsp5]; exact andP_none e⟩) (fun w2 o5 x b5 u e h2 l2 hu S5 kp _ => ?_)
    have hsp6 : pdy b = andP (pnum 2097153 b5) fun e b4 => some (⟨x == 1, acc, expo e⟩, b4) := by rw [hsp5]; exact andP_some e
    have G5 := G3.rd kp
    subst hu
    clear hsp5 hsp3 h2 l2 e G3 S3 kp
    refine ⟨[.int .u8 (x : Int)], rfl, rfl, ?_⟩
    refine sat_prim (v := .bool (((x : Nat) : Int) == 1)) (by kernel_rfl) ?_
    refine sat_chkB (by kernel_rfl) ?_
    refine Sx.sat_rcall (p := pnum 2097153 b5) S5 #[.pointer (some ⟨g, 0, none⟩), .int .i64 2097153] (by kernel_rfl) (fun w2 h2 W2 => rnum_any g b5 2097153 (by omega) _ W2) (fun e _ => ⟨rfl, by rw [hsp6]; exact andP_none e⟩) (fun w2 o6 q b6 u e h2 l2 hu S6 kp _ => ?_)
    obtain ⟨rfl, hq⟩ := hu
    have hsp7 : pdy b = some (⟨x == 1, acc, expo q⟩, b6) := by rw [hsp6]; exact andP_some e
    have G6 := G5.rd kp
    clear hsp6 h2 l2 e G5 S5 kp
    refine ⟨[.int .i64 ((q : Nat) : Int)], rfl, rfl, ?_⟩
    have ex : (((x : Nat) : Int) == 1) = (x == 1) := by
      by_cases h : x = 1
      · subst h; rfl
      · rw [beq_eq_false_iff_ne.2 (by omega), beq_eq_false_iff_ne.2 h]
    rw [ex]
    generalize (x == 1) = ng at *
    refine sat_prim (v := .int .i64 ((q / 2 : Nat) : Int)) (Eq.trans (b := some (.int .i64 (IntKind.i64.wrap (((q : Nat) : Int).tdiv 2)))) (by kernel_rfl) (sml (by rw [Int.tdiv_eq_ediv_of_nonneg (by omega)]; omega) (by omega))) ?_
    refine sat_chkB (by kernel_rfl) ?_
    refine sat_prim (v := .int .i64 ((q % 2 : Nat) : Int)) (Eq.trans (b := some (.int .i64 (((q : Nat) : Int).tmod 2))) (by kernel_rfl) (congrArg (fun z => some (Value.int .i64 z)) (by rw [Int.tmod_eq_emod_of_nonneg (by omega)]; omega))) ?_
    refine sat_prim (v := .bool (((q % 2 : Nat) : Int) == 1)) (by kernel_rfl) ?_
    have fin : ∀ (z : Int) (w9 : Sx.OW), Sx.Le (Sx.rfr Sx.nkM rfl w g) o6 w9 → expo q = z → -9000000 ≤ z → z ≤ 9000000 → ∃ x b', pdy b = some (x, b') ∧ RvD w x w9.toWorld (.agg #[.bool ng, .slice A acc.length c, .int .i64 z]) ∧ Sx.RdW 80 w9.toWorld g b' := by
      rintro z w9 h9 rfl z1 z2
      exact ⟨_, _, hsp7, ⟨A, acc.length, c, rfl, A, acc.length, c, rfl, RdN.of_own (G6.le h9).row.row, hlim, (show (-9223372036854775808 : Int) ≤ expo q by omega), (show expo q ≤ (9223372036854775807 : Int) by omega)⟩, (S6.le h9).rd⟩
    by_cases ho : q % 2 = 1
    · refine sat_trueP (b := (((q % 2 : Nat) : Int) == 1)) (by kernel_rfl) (by rw [ho]; rfl) ?_
      refine sat_prim (v := .int .i64 (-((q / 2 : Nat) : Int))) (Eq.trans (b := some (.int .i64 (IntKind.i64.wrap (0 - ((q / 2 : Nat) : Int))))) (by kernel_rfl) (sml (by omega) (by omega))) ?_
      refine sat_prim (v := .int .i64 (-((q / 2 : Nat) : Int) - 1)) (Eq.trans (b := some (.int .i64 (IntKind.i64.wrap (-((q / 2 : Nat) : Int) - 1)))) (by kernel_rfl) (sml rfl (by omega))) ?_
      refine sat_chkB (by kernel_rfl) ?_
      refine sat_chkB (by kernel_rfl) ?_
      exact sat_ret (.agg #[.bool ng, .slice A acc.length c, .int .i64 (-((q / 2 : Nat) : Int) - 1)]) (by kernel_rfl) fun w9 h9 => fin _ w9 h9 (by unfold expo; rw [decide_eq_true ho]; rfl) (by omega) (by omega)
    · refine sat_falseP (b := (((q % 2 : Nat) : Int) == 1)) (by kernel_rfl) (beq_eq_false_iff_ne.2 (by omega)) ?_
      refine sat_chkB (by kernel_rfl) ?_
      exact sat_ret (.agg #[.bool ng, .slice A acc.length c, .int .i64 ((q / 2 : Nat) : Int)]) (by kernel_rfl) fun w9 h9 => fin _ w9 h9 (by unfold expo; rw [decide_eq_false ho]; rfl) (by omega) (by omega)
/-- An interval comes back. -/
def RvI (_ : World) (a : Iv) (w' : World) (u : Value) : Prop := RdI w' u a

def tr_riv : Sx.Tree := .call 46 [.one (.lf 0)] (.ag 3) (.chk [.lf 1, .lf 2, .lf 3] (.call 46 [.one (.lf 0)] (.ag 3) (.chk [.lf 1, .lf 2, .lf 3, .lf 4, .lf 5, .lf 6] (.chk [.lf 1, .lf 2, .lf 3, .lf 4, .lf 5, .lf 6] (.ret (.ag [.lf 1, .lf 2, .lf 3, .lf 4, .lf 5, .lf 6]))))))
theorem tr_riv_eq : Sx.treeEs Try.prog 50 [] [] [999999] [(false, 1)] = some tr_riv := by kernel_rfl

theorem riv_any (g : Nat) (b : List Nat) (w : World) (hW : Sx.RdW 80 w g b) : Calls Try.prog 50 #[.pointer (some ⟨g, 0, none⟩)] w (Sx.RdOut 80 w g (piv b) RvI) := by
  refine Sx.runR Sx.nkI rfl rfl hW [] [999999] (ls := [.pointer (some ⟨g, 0, none⟩)]) (shs := [(false, 1)]) tr_riv_eq rfl (by decide) fun S0 => ?_
  unfold tr_riv
  refine Sx.sat_rcall (p := pdy b) S0 #[.pointer (some ⟨g, 0, none⟩)] (by kernel_rfl) (fun w2 h2 W2 => rdy_any g b _ W2) (fun e _ => ⟨rfl, by unfold piv; exact andP_none e⟩) (fun w2 o2 x b2 u e h2 l2 hu S2 _ _ => ?_)
  obtain ⟨A, n, c, rfl, hx⟩ := hu
  have hsp : piv b = andP (pdy b2) fun y b2 => some (⟨x, y⟩, b2) := by unfold piv; exact andP_some e
  clear h2 l2 e
  refine ⟨[.bool x.neg, .slice A n c, .int .i64 x.e], rfl, rfl, ?_⟩
  refine sat_chkB (by kernel_rfl) ?_
  refine Sx.sat_rcall (p := pdy b2) S2 #[.pointer (some ⟨g, 0, none⟩)] (by kernel_rfl) (fun w2 h2 W2 => rdy_any g b2 _ W2) (fun e _ => ⟨rfl, by rw [hsp]; exact andP_none e⟩) (fun w2 o3 y b3 u e h2 l3 hu S3 _ _ => ?_)
  obtain ⟨B, m, d, rfl, hy⟩ := hu
  replace hx := l3.rdD hx
  have hsp2 : piv b = some (⟨x, y⟩, b3) := by rw [hsp]; exact andP_some e
  refine ⟨[.bool y.neg, .slice B m d, .int .i64 y.e], rfl, rfl, ?_⟩
  refine sat_chkB (by kernel_rfl) ?_
  refine sat_chkB (by kernel_rfl) ?_
  exact sat_ret (.agg #[.bool x.neg, .slice A n c, .int .i64 x.e, .bool y.neg, .slice B m d, .int .i64 y.e]) (by kernel_rfl) fun w9 h9 => ⟨_, _, hsp2, mkI (l := x) (h := y) (h9.rdD hx) (h9.rdD hy), (S3.le h9).rd⟩

end Go.Proofs.Ytpkfjfpknbhekaa
namespace Go.Proofs.Ytpkfjfpknbhekaa
open Go.RowKit Pl
open Sx (sat_call sat_chk sat_prim sat_ite sat_true sat_false sat_trueP sat_falseP sat_ret sat_row sat_callP sat_loop sat_back sat_idx sat_el sat_elf sat_elc sat_load sat_rowN sat_app sat_callB sat_alt rows_one rows_two all_nil all_cons okB okS okI)

namespace Sx
/-- One element is appended to a row that the call builds. -/
theorem sat_push1 {α : Type} {k : Kind α} {bb : Nat} {w0 : Fr} {w : OW} {R : Value → World → Prop} {Pn : List PanicEntry → World → Prop} {Bk : Back} {ρ : List Value} {t : Tree} {rty e : TypeId} {sz by' : Nat} {cs kk : List At} {s : At} {j g : Nat} {v : Value} {l : List α} {b : List Nat} (x : α) (vs : List Value) (G : GrN (kF bb k) w0 e w v l g) (S : RdS rty w0 w g b) (hj : j = ρ.length) (hcs : denL ρ [] cs = vs) (hk : ∀ y ∈ kk, (y.den ρ []).oneCell' = true) (hs : ∀ r, s.den (ρ ++ [r]) [] = v) (hsz : k.sz = sz)
    (hE : ∀ w' : OW, Le w0 w w' → k.El (fun q => bb ≤ q ∧ NB w' q) w'.toWorld vs x) (h1 : l.length + 1 ≤ maxLen) (h2 : (l.length + 1) * by' ≤ 140737488355328)
    (K : ∀ r A c' ow, Lf w0 w ow → (∀ {β : Type} {k2 : Kind β} {e2 : TypeId} {s2 : Value} {l2 : List β}, GrN k2 w0 e2 w s2 l2 g → Apart v s2 → GrN k2 w0 e2 ow s2 l2 g ∧ Apart (.slice A (l ++ [x]).length c') s2) → RdS rty w0 ow g b → GrN (kF bb k) w0 e ow (.slice A (l ++ [x]).length c') (l ++ [x]) g → satB Try.prog w0 R Pn Bk t (ρ ++ [r] ++ [.slice A (l ++ [x]).length c']) ow) :
    satB Try.prog w0 R Pn Bk (.row e cs 1 kk (.app e sz by' s (.lf j) t)) ρ w := by
  subst hj hsz
  refine sat_rowN vs hcs hk fun u1 h1' B1 NB1 => ?_
  have E1 := hE _ h1'
  have S1 := S.le h1'
  have G1 := G.le h1'
  have oth1 : ∀ {β : Type} {k2 : Kind β} {e2 : TypeId} {s2 : Value} {l2 : List β}, GrN k2 w0 e2 w s2 l2 g → GrN k2 w0 e2 _ s2 l2 g := fun q => q.le h1'
  have F_R := rows_one (k := kF bb k) (x := x) B1 NB1 E1
  have hL := h1'.toLf
  refine sat_app v (.slice (some ⟨u1.heap.size, 0, none⟩) 1 1) (hs _) (by simp [At.den]) fun w6 h6 => ?_
  refine (G1.le h6).app (l' := [x]) (F_R.mv (h6.mv G.gr.pos.2.2)) ((S1.le h6).rd.lt) h1 h2 fun A c' o7 a7 G7 => ?_
  refine K _ A c' o7 ((hL.trans h6.toLf).trans a7.toLf) (fun q hd => ?_) ((S1.le h6).app a7 G.ne) G7
  have q2 := (oth1 q).le h6
  obtain ⟨r1, r2⟩ := q2.gr.other a7 hd h6.wf
  exact ⟨⟨r1, q2.ne⟩, r2⟩
end Sx
/-- A row comes back, of the call's own making. -/
def RvL {α : Type} (k : Sx.Kind α) (w0 : World) (l : List α) (w' : World) (u : Value) : Prop := ∃ A c, u = .slice A l.length c ∧ Sx.Rows k (fun q => w0.heap.size ≤ q) w' A l.length c l
/-- A tube comes back. -/
def RvT (w0 : World) (t : Tb) (w' : World) (u : Value) : Prop := ∃ A c B d, u = .agg #[.slice A t.at_.length c, .slice B t.v.length d] ∧ Sx.Rows Sx.kD (fun q => w0.heap.size ≤ q) w' A t.at_.length c t.at_ ∧ Sx.Rows Sx.kI (fun q => w0.heap.size ≤ q) w' B t.v.length d t.v

def tr_rtb : Sx.Tree := .call 45 [.one (.lf 0), .one (.num .i64 256)] .one (.prim (.bin .add) [.lf 1, .num .i64 1] (.loop 0 [.num .i64 0, .nil, .nil] (.prim (.bin .lss) [.lf 3, .lf 2] (.ite (.lf 6) (.call 46 [.one (.lf 0)] (.ag 3) (.row 24 [.lf 7, .lf 8, .lf 9] 1 [] (.app 24 3 40 (.lf 4) (.lf 10) (.chk [.lf 11] (.prim (.bin .add) [.lf 3, .num .i64 1] (.back 0 [.lf 12, .lf 11, .lf 5])))))) (.loop 0 [.num .i64 0, .lf 4, .lf 5] (.prim (.bin .lss) [.lf 7, .lf 1] (.ite (.lf 10) (.call 50 [.one (.lf 0)] (.ag 6) (.row 61 [.lf 11, .lf 12, .lf 13, .lf 14, .lf 15, .lf 16] 1 [] (.app 61 6 80 (.lf 9) (.lf 17) (.chk [.lf 18] (.prim (.bin .add) [.lf 7, .num .i64 1] (.back 0 [.lf 19, .lf 8, .lf 18])))))) (.chk [.lf 8, .lf 9] (.ret (.ag [.lf 8, .lf 9]))))))))))
theorem tr_rtb_eq : Sx.treeEs Try.prog 54 [] [1] [999999] [(false, 1)] = some tr_rtb := by kernel_rfl

theorem rtb_any (g : Nat) (b : List Nat) (w : World) (hW : Sx.RdW 80 w g b) : Calls Try.prog 54 #[.pointer (some ⟨g, 0, none⟩)] w (Sx.RdOut 80 w g (ptb b) RvT) := by
  refine Sx.runR Sx.nkI rfl rfl hW [1] [999999] (ls := [.pointer (some ⟨g, 0, none⟩)]) (shs := [(false, 1)]) tr_rtb_eq rfl (by decide) fun S0 => ?_
  unfold tr_rtb
  refine Sx.sat_rcall (p := pnum 256 b) S0 #[.pointer (some ⟨g, 0, none⟩), .int .i64 256] (by kernel_rfl) (fun w2 h2 W2 => rnum_any g b 256 (by omega) _ W2) (fun e _ => ⟨rfl, by unfold ptb; exact andP_none e⟩) (fun w2 o2 n b2 u e h2 l2 hu S2 _ _ => ?_)
  obtain ⟨rfl, hn⟩ := hu
  have hsp : ptb b = andP (prep pdy (n + 1) [] b2) fun p b2 => andP (prep piv n [] b2) fun q b3 => some (⟨p, q⟩, b3) := by unfold ptb; exact andP_some e
  clear h2 l2 e
  refine ⟨[.int .i64 ((n : Nat) : Int)], rfl, rfl, ?_⟩
  refine sat_prim (v := .int .i64 ((n + 1 : Nat) : Int)) (Eq.trans (b := some (.int .i64 (IntKind.i64.wrap (((n : Nat) : Int) + 1)))) (by kernel_rfl) (sml (by omega) (by omega))) ?_
  refine sat_loop (fun Kn vs W => ∃ (i : Nat) (acc : List Dy) (b' : List Nat) (A : Option Addr) (c : Nat), vs = [.int .i64 ((i : Nat) : Int), .slice A acc.length c, .slice none 0 0] ∧ Kn = n + 1 - i ∧ i ≤ n + 1 ∧ acc.length = i ∧ Sx.RdS 80 (Sx.rfr Sx.nkI rfl w g) W g b' ∧ Sx.GrN (Sx.kF w.heap.size Sx.kD) (Sx.rfr Sx.nkI rfl w g) 24 W (.slice A acc.length c) acc g ∧ ptb b = andP (prep pdy (n + 1 - i) acc b') fun p b2 => andP (prep piv n [] b2) fun q b3 => some (⟨p, q⟩, b3)) [.int .i64 0, .slice none 0 0, .slice none 0 0] (by kernel_rfl) (fun w1 h1 => ⟨_, 0, [], b2, none, 0, rfl, rfl, by omega, rfl, S2.le h1, ⟨Sx.Gr.nil (k := Sx.kF w.heap.size Sx.kD) (Nat.succ_pos _) _ _ _, fun e => by cases e⟩, hsp⟩) ?_
  rintro Kn vs w3 h3 ⟨i, acc, b3, A, c, rfl, rfl, hi, hacc, S3, G3, hsp3⟩
  clear hsp S2 h3
  refine sat_prim (v := .bool (decide (((i : Nat) : Int) < ((n + 1 : Nat) : Int)))) (by kernel_rfl) ?_
  by_cases hin : i < n + 1
  · refine sat_trueP (b := decide (((i : Nat) : Int) < ((n + 1 : Nat) : Int))) (by kernel_rfl) (decide_eq_true (by omega)) ?_
    obtain ⟨m, hm⟩ : ∃ m, n + 1 - i = m + 1 := ⟨n - i, by omega⟩
    have hsp4 : ptb b = andP (andP (pdy b3) fun x b' => prep pdy m (acc ++ [x]) b') fun p b2 => andP (prep piv n [] b2) fun q b3 => some (⟨p, q⟩, b3) := by rw [hsp3, hm]; rfl
    rw [andP_assoc] at hsp4
    refine Sx.sat_rcall (p := pdy b3) S3 #[.pointer (some ⟨g, 0, none⟩)] (by kernel_rfl) (fun w2 h2 W2 => rdy_any g b3 _ W2) (fun e _ => ⟨rfl, by rw [hsp4]; exact andP_none e⟩) (fun w4 o4 x b4 u e h4 l4 hu S4 kp _ => ?_)
    have hsp5 := hsp4.trans (andP_some e)
    obtain ⟨C, k, d, rfl, r_x⟩ := hu
    have G4 := G3.rd l4 kp
    clear hsp3 hsp4 h4 l4 kp e S3 G3
    refine ⟨[.bool x.neg, .slice C k d, .int .i64 x.e], rfl, rfl, ?_⟩
    refine Sx.sat_push1 (k := Sx.kD) (j := 10) x [.bool x.neg, .slice C k d, .int .i64 x.e] G4 S4 (by kernel_rfl) (by kernel_rfl) (by intro y hy; cases hy) (fun r => by kernel_rfl) rfl (fun w' h' => ⟨C, k, d, rfl, h'.rdD r_x⟩) (by unfold maxLen; omega) (by omega) fun r A' c' o5 l5 _ S5 G5 => ?_
    refine sat_chkB (by kernel_rfl) ?_
    refine sat_prim (v := .int .i64 ((i + 1 : Nat) : Int)) (Eq.trans (b := some (.int .i64 (IntKind.i64.wrap (((i : Nat) : Int) + 1)))) (by kernel_rfl) (sml (by omega) (by omega))) ?_
    exact sat_back [.int .i64 ((i + 1 : Nat) : Int), .slice A' (acc ++ [x]).length c', .slice none 0 0] (by kernel_rfl) fun w9 h9 => ⟨_, by omega, i + 1, acc ++ [x], b4, A', c', rfl, rfl, by omega, by rw [List.length_append]; simp only [List.length_cons, List.length_nil]; omega, S5.le h9, G5.le h9, by rw [show n + 1 - (i + 1) = m by omega]; exact hsp5⟩
  · refine sat_falseP (b := decide (((i : Nat) : Int) < ((n + 1 : Nat) : Int))) (by kernel_rfl) (decide_eq_false (by omega)) ?_
    have hsp4 : ptb b = andP (prep piv (n - 0) [] b3) fun q b3 => some (⟨acc, q⟩, b3) := by rw [hsp3, show n + 1 - i = 0 by omega]; rfl
    refine sat_loop (fun Kn vs W => ∃ (k : Nat) (aq : List Iv) (b' : List Nat) (B : Option Addr) (d : Nat), vs = [.int .i64 ((k : Nat) : Int), .slice A acc.length c, .slice B aq.length d] ∧ Kn = n - k ∧ k ≤ n ∧ aq.length = k ∧ Sx.RdS 80 (Sx.rfr Sx.nkI rfl w g) W g b' ∧ Sx.GrN (Sx.kF w.heap.size Sx.kD) (Sx.rfr Sx.nkI rfl w g) 24 W (.slice A acc.length c) acc g ∧ Sx.GrN (Sx.kF w.heap.size Sx.kI) (Sx.rfr Sx.nkI rfl w g) 61 W (.slice B aq.length d) aq g ∧ Sx.Apart (.slice B aq.length d) (.slice A acc.length c) ∧ ptb b = andP (prep piv (n - k) aq b') fun q b3 => some (⟨acc, q⟩, b3)) [.int .i64 0, .slice A acc.length c, .slice none 0 0] (by kernel_rfl) (fun w1 h1 => ⟨_, 0, [], b3, none, 0, rfl, rfl, by omega, rfl, S3.le h1, G3.le h1, ⟨Sx.Gr.nil (k := Sx.kF w.heap.size Sx.kI) (Nat.succ_pos _) _ _ _, fun e => by cases e⟩, fun q hq => (by cases hq), hsp4⟩) ?_
    rintro Kn vs w4 h4 ⟨k, aq, b4, B, d, rfl, rfl, hk, haq, S4, G4, H4, D4, hsp5⟩
    clear hsp3 hsp4 h4 S3 G3
    refine sat_prim (v := .bool (decide (((k : Nat) : Int) < ((n : Nat) : Int)))) (by kernel_rfl) ?_
    by_cases hkn : k < n
    · refine sat_trueP (b := decide (((k : Nat) : Int) < ((n : Nat) : Int))) (by kernel_rfl) (decide_eq_true (by omega)) ?_
      obtain ⟨m, hm⟩ : ∃ m, n - k = m + 1 := ⟨n - k - 1, by omega⟩
      have hsp6 : ptb b = andP (andP (piv b4) fun x b' => prep piv m (aq ++ [x]) b') fun q b3 => some (⟨acc, q⟩, b3) := by rw [hsp5, hm]; rfl
      rw [andP_assoc] at hsp6
      refine Sx.sat_rcall (p := piv b4) S4 #[.pointer (some ⟨g, 0, none⟩)] (by kernel_rfl) (fun w2 h2 W2 => riv_any g b4 _ W2) (fun e _ => ⟨rfl, by rw [hsp6]; exact andP_none e⟩) (fun w5 o5 x b5 u e h5 l5 hu S5 kp _ => ?_)
      have hsp7 := hsp6.trans (andP_some e)
      obtain ⟨C1, k1, d1, C2, k2, d2, rfl, r_x1, r_x2⟩ := hu
      have G5 := G4.rd l5 kp
      have H5 := H4.rd l5 kp
      clear hsp5 hsp6 h5 l5 kp e S4 G4 H4
      refine ⟨[.bool x.lo.neg, .slice C1 k1 d1, .int .i64 x.lo.e, .bool x.hi.neg, .slice C2 k2 d2, .int .i64 x.hi.e], rfl, rfl, ?_⟩
      refine Sx.sat_push1 (k := Sx.kI) (j := 17) x [.bool x.lo.neg, .slice C1 k1 d1, .int .i64 x.lo.e, .bool x.hi.neg, .slice C2 k2 d2, .int .i64 x.hi.e] H5 S5 (by kernel_rfl) (by kernel_rfl) (by intro y hy; cases hy) (fun r => by kernel_rfl) rfl (fun w' h' => ⟨C1, k1, d1, C2, k2, d2, rfl, h'.rdD r_x1, h'.rdD r_x2⟩) (by unfold maxLen; omega) (by omega) fun r B' d' o6 l6 oth S6 H6 => ?_
      obtain ⟨G6, D6⟩ := oth G5 D4
      refine sat_chkB (by kernel_rfl) ?_
      refine sat_prim (v := .int .i64 ((k + 1 : Nat) : Int)) (Eq.trans (b := some (.int .i64 (IntKind.i64.wrap (((k : Nat) : Int) + 1)))) (by kernel_rfl) (sml (by omega) (by omega))) ?_
      exact sat_back [.int .i64 ((k + 1 : Nat) : Int), .slice A acc.length c, .slice B' (aq ++ [x]).length d'] (by kernel_rfl) fun w9 h9 => ⟨_, by omega, k + 1, aq ++ [x], b5, B', d', rfl, rfl, by omega, by rw [List.length_append]; simp only [List.length_cons, List.length_nil]; omega, S6.le h9, G6.le h9, H6.le h9, D6, by rw [show n - (k + 1) = m by omega]; exact hsp7⟩
    · refine sat_falseP (b := decide (((k : Nat) : Int) < ((n : Nat) : Int))) (by kernel_rfl) (decide_eq_false (by omega)) ?_
      have hsp6 : ptb b = some (⟨acc, aq⟩, b4) := by rw [hsp5, show n - k = 0 by omega]; rfl
      refine sat_chkB (by kernel_rfl) ?_
      exact sat_ret (.agg #[.slice A acc.length c, .slice B aq.length d]) (by kernel_rfl) fun w9 h9 => ⟨_, _, hsp6, ⟨A, c, B, d, rfl, (G4.le h9).done, (H4.le h9).done⟩, (S4.le h9).rd⟩

def tr_rrowI : Sx.Tree := .call 45 [.one (.lf 0), .one (.lf 1)] .one (.loop 0 [.lf 3, .nil] (.prim (.bin .gtr) [.lf 4, .num .i64 0] (.ite (.lf 6) (.callv (.lf 2) [] (.ag 6) (.row 61 [.lf 7, .lf 8, .lf 9, .lf 10, .lf 11, .lf 12] 1 [] (.app 61 6 80 (.lf 5) (.lf 13) (.prim (.bin .sub) [.lf 4, .num .i64 1] (.back 0 [.lf 15, .lf 14]))))) (.ret (.one (.lf 5))))))
theorem tr_rrowI_eq : Sx.treeEs Try.prog 49 [] [] [999999] [(false, 1), (false, 1), (false, 1)] = some tr_rrowI := by kernel_rfl

theorem rrowI_any (g : Nat) (b : List Nat) (most : Nat) (hmost : most ≤ 1000) (w : World) (hW : Sx.RdW 80 w g b) : Calls Try.prog 49 #[.pointer (some ⟨g, 0, none⟩), .int .i64 ((most : Nat) : Int), .func (.func 50) #[.pointer (some ⟨g, 0, none⟩)] #[]] w (Sx.RdOut 80 w g (prow most piv b) (RvL Sx.kI)) := by
  refine Sx.runR Sx.nkI rfl rfl hW [] [999999] (ls := [.pointer (some ⟨g, 0, none⟩), .int .i64 ((most : Nat) : Int), .func (.func 50) #[.pointer (some ⟨g, 0, none⟩)] #[]]) (shs := [(false, 1), (false, 1), (false, 1)]) tr_rrowI_eq rfl (by decide) fun S0 => ?_
  unfold tr_rrowI
  refine Sx.sat_rcall (p := pnum most b) S0 #[.pointer (some ⟨g, 0, none⟩), .int .i64 ((most : Nat) : Int)] (by kernel_rfl) (fun w2 h2 W2 => rnum_any g b most (by omega) _ W2) (fun e _ => ⟨rfl, by unfold prow; exact andP_none e⟩) (fun w2 o2 n b2 u e h2 l2 hu S2 _ _ => ?_)
  obtain ⟨rfl, hn⟩ := hu
  have hsp : prow most piv b = prep piv n [] b2 := by unfold prow; exact andP_some e
  clear h2 l2 e
  refine ⟨[.int .i64 ((n : Nat) : Int)], rfl, rfl, ?_⟩
  refine sat_loop (fun Kn vs W => ∃ (k : Nat) (acc : List Iv) (b' : List Nat) (A : Option Addr) (c : Nat), vs = [.int .i64 ((k : Nat) : Int), .slice A acc.length c] ∧ k = Kn ∧ k + acc.length ≤ most ∧ Sx.RdS 80 (Sx.rfr Sx.nkI rfl w g) W g b' ∧ Sx.GrN (Sx.kF w.heap.size Sx.kI) (Sx.rfr Sx.nkI rfl w g) 61 W (.slice A acc.length c) acc g ∧ prow most piv b = prep piv k acc b') [.int .i64 ((n : Nat) : Int), .slice none 0 0] (by kernel_rfl) (fun w1 h1 => ⟨_, n, [], b2, none, 0, rfl, rfl, by simpa using hn, S2.le h1, ⟨Sx.Gr.nil (k := Sx.kF w.heap.size Sx.kI) (Nat.succ_pos _) _ _ _, fun e => by cases e⟩, hsp⟩) ?_
  rintro Kn vs w3 h3 ⟨k, acc, b3, A, c, rfl, rfl, hk, S3, G3, hsp3⟩
  clear hsp S2 h3
  refine sat_prim (v := .bool (decide ((0 : Int) < ((k : Nat) : Int)))) (by kernel_rfl) ?_
  cases k with
  | zero =>
    refine sat_falseP (b := decide ((0 : Int) < ((0 : Nat) : Int))) (by kernel_rfl) rfl ?_
    exact sat_ret (.slice A acc.length c) (by kernel_rfl) fun w9 h9 => ⟨_, _, hsp3, ⟨A, c, rfl, (G3.le h9).done⟩, (S3.le h9).rd⟩
  | succ k =>
    refine sat_trueP (b := decide ((0 : Int) < ((k + 1 : Nat) : Int))) (by kernel_rfl) (decide_eq_true (by omega)) ?_
    have hsp4 : prow most piv b = andP (piv b3) fun x b' => prep piv k (acc ++ [x]) b' := hsp3
    refine Sx.sat_rcallv (p := piv b3) (first := #[.pointer (some ⟨g, 0, none⟩)]) (caps := #[]) S3 (by kernel_rfl) (by kernel_rfl) #[.pointer (some ⟨g, 0, none⟩)] (by kernel_rfl) (fun w2 h2 W2 => riv_any g b3 _ W2) (fun e _ => ⟨rfl, by rw [hsp4]; exact andP_none e⟩) (fun w4 o4 x b4 u e h4 l4 hu S4 kp mvf => ?_)
    have hsp5 := hsp4.trans (andP_some e)
    obtain ⟨C1, k1, d1, C2, k2, d2, rfl, r_x1, r_x2⟩ := hu
    have G4 := G3.rd l4 kp
    clear hsp3 hsp4 h4 l4 kp e S3 G3 mvf
    refine ⟨[.bool x.lo.neg, .slice C1 k1 d1, .int .i64 x.lo.e, .bool x.hi.neg, .slice C2 k2 d2, .int .i64 x.hi.e], rfl, rfl, ?_⟩
    refine Sx.sat_push1 (k := Sx.kI) (j := 13) x [.bool x.lo.neg, .slice C1 k1 d1, .int .i64 x.lo.e, .bool x.hi.neg, .slice C2 k2 d2, .int .i64 x.hi.e] G4 S4 (by kernel_rfl) (by kernel_rfl) (by intro y hy; cases hy) (fun r => by kernel_rfl) rfl (fun w' h' => ⟨C1, k1, d1, C2, k2, d2, rfl, h'.rdD r_x1, h'.rdD r_x2⟩) (by unfold maxLen; omega) (by omega) fun r A' c' o5 l5 _ S5 G5 => ?_
    refine sat_prim (v := .int .i64 ((k : Nat) : Int)) (Eq.trans (b := some (.int .i64 (IntKind.i64.wrap (((k + 1 : Nat) : Int) - 1)))) (by kernel_rfl) (sml (by omega) (by omega))) ?_
    exact sat_back [.int .i64 ((k : Nat) : Int), .slice A' (acc ++ [x]).length c'] (by kernel_rfl) fun w9 h9 => ⟨_, by omega, k, acc ++ [x], b4, A', c', rfl, rfl, by rw [List.length_append]; simp only [List.length_cons, List.length_nil]; omega, S5.le h9, G5.le h9, hsp5⟩

def tr_rrowT : Sx.Tree := .call 45 [.one (.lf 0), .one (.lf 1)] .one (.loop 0 [.lf 3, .nil] (.prim (.bin .gtr) [.lf 4, .num .i64 0] (.ite (.lf 6) (.callv (.lf 2) [] (.ag 2) (.row 50 [.lf 7, .lf 8] 1 [] (.app 50 2 48 (.lf 5) (.lf 9) (.prim (.bin .sub) [.lf 4, .num .i64 1] (.back 0 [.lf 11, .lf 10]))))) (.ret (.one (.lf 5))))))
theorem tr_rrowT_eq : Sx.treeEs Try.prog 53 [] [] [999999] [(false, 1), (false, 1), (false, 1)] = some tr_rrowT := by kernel_rfl

theorem rrowT_any (g : Nat) (b : List Nat) (most : Nat) (hmost : most ≤ 1000) (w : World) (hW : Sx.RdW 80 w g b) : Calls Try.prog 53 #[.pointer (some ⟨g, 0, none⟩), .int .i64 ((most : Nat) : Int), .func (.func 54) #[.pointer (some ⟨g, 0, none⟩)] #[]] w (Sx.RdOut 80 w g (prow most ptb b) (RvL Sx.kT)) := by
  refine Sx.runR Sx.nkI rfl rfl hW [] [999999] (ls := [.pointer (some ⟨g, 0, none⟩), .int .i64 ((most : Nat) : Int), .func (.func 54) #[.pointer (some ⟨g, 0, none⟩)] #[]]) (shs := [(false, 1), (false, 1), (false, 1)]) tr_rrowT_eq rfl (by decide) fun S0 => ?_
  unfold tr_rrowT
  refine Sx.sat_rcall (p := pnum most b) S0 #[.pointer (some ⟨g, 0, none⟩), .int .i64 ((most : Nat) : Int)] (by kernel_rfl) (fun w2 h2 W2 => rnum_any g b most (by omega) _ W2) (fun e _ => ⟨rfl, by unfold prow; exact andP_none e⟩) (fun w2 o2 n b2 u e h2 l2 hu S2 _ _ => ?_)
  obtain ⟨rfl, hn⟩ := hu
  have hsp : prow most ptb b = prep ptb n [] b2 := by unfold prow; exact andP_some e
  clear h2 l2 e
  refine ⟨[.int .i64 ((n : Nat) : Int)], rfl, rfl, ?_⟩
  refine sat_loop (fun Kn vs W => ∃ (k : Nat) (acc : List Tb) (b' : List Nat) (A : Option Addr) (c : Nat), vs = [.int .i64 ((k : Nat) : Int), .slice A acc.length c] ∧ k = Kn ∧ k + acc.length ≤ most ∧ Sx.RdS 80 (Sx.rfr Sx.nkI rfl w g) W g b' ∧ Sx.GrN (Sx.kF w.heap.size Sx.kT) (Sx.rfr Sx.nkI rfl w g) 50 W (.slice A acc.length c) acc g ∧ prow most ptb b = prep ptb k acc b') [.int .i64 ((n : Nat) : Int), .slice none 0 0] (by kernel_rfl) (fun w1 h1 => ⟨_, n, [], b2, none, 0, rfl, rfl, by simpa using hn, S2.le h1, ⟨Sx.Gr.nil (k := Sx.kF w.heap.size Sx.kT) (Nat.succ_pos _) _ _ _, fun e => by cases e⟩, hsp⟩) ?_
  rintro Kn vs w3 h3 ⟨k, acc, b3, A, c, rfl, rfl, hk, S3, G3, hsp3⟩
  clear hsp S2 h3
  refine sat_prim (v := .bool (decide ((0 : Int) < ((k : Nat) : Int)))) (by kernel_rfl) ?_
  cases k with
  | zero =>
    refine sat_falseP (b := decide ((0 : Int) < ((0 : Nat) : Int))) (by kernel_rfl) rfl ?_
    exact sat_ret (.slice A acc.length c) (by kernel_rfl) fun w9 h9 => ⟨_, _, hsp3, ⟨A, c, rfl, (G3.le h9).done⟩, (S3.le h9).rd⟩
  | succ k =>
    refine sat_trueP (b := decide ((0 : Int) < ((k + 1 : Nat) : Int))) (by kernel_rfl) (decide_eq_true (by omega)) ?_
    have hsp4 : prow most ptb b = andP (ptb b3) fun x b' => prep ptb k (acc ++ [x]) b' := hsp3
    refine Sx.sat_rcallv (p := ptb b3) (first := #[.pointer (some ⟨g, 0, none⟩)]) (caps := #[]) S3 (by kernel_rfl) (by kernel_rfl) #[.pointer (some ⟨g, 0, none⟩)] (by kernel_rfl) (fun w2 h2 W2 => rtb_any g b3 _ W2) (fun e _ => ⟨rfl, by rw [hsp4]; exact andP_none e⟩) (fun w4 o4 x b4 u e h4 l4 hu S4 kp mvf => ?_)
    have hsp5 := hsp4.trans (andP_some e)
    obtain ⟨C, d, D, k1, rfl, R1, R2⟩ := hu
    have G4 := G3.rd l4 kp
    replace R1 := R1.mv mvf
    replace R2 := R2.mv mvf
    clear hsp3 hsp4 h4 l4 kp e S3 G3 mvf
    refine ⟨[.slice C x.at_.length d, .slice D x.v.length k1], rfl, rfl, ?_⟩
    refine Sx.sat_push1 (k := Sx.kT) (j := 9) x [.slice C x.at_.length d, .slice D x.v.length k1] G4 S4 (by kernel_rfl) (by kernel_rfl) (by intro y hy; cases hy) (fun r => by kernel_rfl) rfl (fun w' h' => ⟨C, _, d, D, _, k1, rfl, R1.mv h'.mvF, R2.mv h'.mvF⟩) (by unfold maxLen; omega) (by omega) fun r A' c' o5 l5 _ S5 G5 => ?_
    refine sat_prim (v := .int .i64 ((k : Nat) : Int)) (Eq.trans (b := some (.int .i64 (IntKind.i64.wrap (((k + 1 : Nat) : Int) - 1)))) (by kernel_rfl) (sml (by omega) (by omega))) ?_
    exact sat_back [.int .i64 ((k : Nat) : Int), .slice A' (acc ++ [x]).length c'] (by kernel_rfl) fun w9 h9 => ⟨_, by omega, k, acc ++ [x], b4, A', c', rfl, rfl, by rw [List.length_append]; simp only [List.length_cons, List.length_nil]; omega, S5.le h9, G5.le h9, hsp5⟩

def tr_get2 : Sx.Tree := .loadm 79 (.lf 0) .one (.loadm 79 (.lf 0) .one (.prim (.clo 50 1) [.lf 2] (.call 49 [.one (.lf 1), .one (.num .i64 64), .one (.lf 3)] .one (.ret (.one (.lf 4))))))
theorem tr_get2_eq : Sx.treeEs Try.prog 48 [] [] [999999] [(false, 1)] = some tr_get2 := by kernel_rfl

theorem get2_any (g : Nat) (b : List Nat) (w : World) (hW : Sx.RdW 80 w g b) (p : Nat) (h_p : Box w p [.pointer (some ⟨g, 0, none⟩)] 79 ∧ p ≠ g ∧ p < w.heap.size) : Calls Try.prog 48 #[.pointer (some ⟨p, 0, none⟩)] w (Sx.RdOut 80 w g (prow 64 piv b) (RvL Sx.kI)) := by
  refine Sx.runR Sx.nkI rfl rfl hW [] [999999] (ls := [.pointer (some ⟨p, 0, none⟩)]) (shs := [(false, 1)]) tr_get2_eq rfl (by decide) fun S0 => ?_
  unfold tr_get2
  have F_p : Sx.PV ⟨w, [], [g]⟩ p (.pointer (some ⟨g, 0, none⟩)) 79 := ⟨⟨h_p.2.2, (⟨fun e => (by cases e), fun e => h_p.2.1 (List.mem_singleton.1 e)⟩ : _ ∧ _)⟩, h_p.1⟩
  refine Sx.sat_pv F_p (by kernel_rfl) (by kernel_rfl) ?_
  refine Sx.sat_pv F_p (by kernel_rfl) (by kernel_rfl) ?_
  refine sat_prim (v := .func (.func 50) #[.pointer (some ⟨g, 0, none⟩)] #[]) (by kernel_rfl) ?_
  refine Sx.sat_rcall (p := prow 64 piv b) S0 #[.pointer (some ⟨g, 0, none⟩), .int .i64 64, .func (.func 50) #[.pointer (some ⟨g, 0, none⟩)] #[]] (by kernel_rfl) (fun w2 h2 W2 => rrowI_any g b 64 (by omega) _ W2) (fun e _ => ⟨rfl, e⟩) (fun w2 o2 x b2 u e h2 l2 hu S2 _ mvf => ?_)
  obtain ⟨A, c, rfl, hR⟩ := hu
  replace hR := hR.mv mvf
  refine ⟨[.slice A x.length c], rfl, rfl, ?_⟩
  exact sat_ret (.slice A x.length c) (by kernel_rfl) fun w9 h9 => ⟨x, b2, e, ⟨A, c, rfl, (hR.mv h9.mvF).mv (Sx.Mv.weak fun _ _ hq => hq.1)⟩, (S2.le h9).rd⟩

def tr_get3 : Sx.Tree := .loadm 79 (.lf 0) .one (.loadm 79 (.lf 0) .one (.prim (.clo 54 1) [.lf 2] (.call 53 [.one (.lf 1), .one (.num .i64 64), .one (.lf 3)] .one (.ret (.one (.lf 4))))))
theorem tr_get3_eq : Sx.treeEs Try.prog 52 [] [] [999999] [(false, 1)] = some tr_get3 := by kernel_rfl

theorem get3_any (g : Nat) (b : List Nat) (w : World) (hW : Sx.RdW 80 w g b) (p : Nat) (h_p : Box w p [.pointer (some ⟨g, 0, none⟩)] 79 ∧ p ≠ g ∧ p < w.heap.size) : Calls Try.prog 52 #[.pointer (some ⟨p, 0, none⟩)] w (Sx.RdOut 80 w g (prow 64 ptb b) (RvL Sx.kT)) := by
  refine Sx.runR Sx.nkI rfl rfl hW [] [999999] (ls := [.pointer (some ⟨p, 0, none⟩)]) (shs := [(false, 1)]) tr_get3_eq rfl (by decide) fun S0 => ?_
  unfold tr_get3
  have F_p : Sx.PV ⟨w, [], [g]⟩ p (.pointer (some ⟨g, 0, none⟩)) 79 := ⟨⟨h_p.2.2, (⟨fun e => (by cases e), fun e => h_p.2.1 (List.mem_singleton.1 e)⟩ : _ ∧ _)⟩, h_p.1⟩
  refine Sx.sat_pv F_p (by kernel_rfl) (by kernel_rfl) ?_
  refine Sx.sat_pv F_p (by kernel_rfl) (by kernel_rfl) ?_
  refine sat_prim (v := .func (.func 54) #[.pointer (some ⟨g, 0, none⟩)] #[]) (by kernel_rfl) ?_
  refine Sx.sat_rcall (p := prow 64 ptb b) S0 #[.pointer (some ⟨g, 0, none⟩), .int .i64 64, .func (.func 54) #[.pointer (some ⟨g, 0, none⟩)] #[]] (by kernel_rfl) (fun w2 h2 W2 => rrowT_any g b 64 (by omega) _ W2) (fun e _ => ⟨rfl, e⟩) (fun w2 o2 x b2 u e h2 l2 hu S2 _ mvf => ?_)
  obtain ⟨A, c, rfl, hR⟩ := hu
  replace hR := hR.mv mvf
  refine ⟨[.slice A x.length c], rfl, rfl, ?_⟩
  exact sat_ret (.slice A x.length c) (by kernel_rfl) fun w9 h9 => ⟨x, b2, e, ⟨A, c, rfl, (hR.mv h9.mvF).mv (Sx.Mv.weak fun _ _ hq => hq.1)⟩, (S2.le h9).rd⟩

def tr_rrowLI : Sx.Tree := .call 45 [.one (.lf 0), .one (.lf 1)] .one (.loop 0 [.lf 3, .nil] (.prim (.bin .gtr) [.lf 4, .num .i64 0] (.ite (.lf 6) (.callv (.lf 2) [] .one (.row 45 [.lf 7] 1 [.lf 7] (.app 45 1 24 (.lf 5) (.lf 8) (.prim (.bin .sub) [.lf 4, .num .i64 1] (.back 0 [.lf 10, .lf 9]))))) (.ret (.one (.lf 5))))))
theorem tr_rrowLI_eq : Sx.treeEs Try.prog 47 [] [] [999999] [(false, 1), (false, 1), (false, 1)] = some tr_rrowLI := by kernel_rfl

theorem rrowLI_any (g : Nat) (b : List Nat) (most : Nat) (hmost : most ≤ 1000) (w : World) (hW : Sx.RdW 80 w g b) (p : Nat) (h_p : Box w p [.pointer (some ⟨g, 0, none⟩)] 79 ∧ p ≠ g ∧ p < w.heap.size) : Calls Try.prog 47 #[.pointer (some ⟨g, 0, none⟩), .int .i64 ((most : Nat) : Int), .func (.func 48) #[] #[.pointer (some ⟨p, 0, none⟩)]] w (Sx.RdOut 80 w g (prow most (prow 64 piv) b) (RvL (Sx.kL Sx.kI))) := by
  refine Sx.runR Sx.nkI rfl rfl hW [] [999999] (ls := [.pointer (some ⟨g, 0, none⟩), .int .i64 ((most : Nat) : Int), .func (.func 48) #[] #[.pointer (some ⟨p, 0, none⟩)]]) (shs := [(false, 1), (false, 1), (false, 1)]) tr_rrowLI_eq rfl (by decide) fun S0 => ?_
  unfold tr_rrowLI
  have F_p : Sx.PV ⟨w, [], [g]⟩ p (.pointer (some ⟨g, 0, none⟩)) 79 := ⟨⟨h_p.2.2, (⟨fun e => (by cases e), fun e => h_p.2.1 (List.mem_singleton.1 e)⟩ : _ ∧ _)⟩, h_p.1⟩
  refine Sx.sat_rcall (p := pnum most b) S0 #[.pointer (some ⟨g, 0, none⟩), .int .i64 ((most : Nat) : Int)] (by kernel_rfl) (fun w2 h2 W2 => rnum_any g b most (by omega) _ W2) (fun e _ => ⟨rfl, by unfold prow; exact andP_none e⟩) (fun w2 o2 n b2 u e h2 l2 hu S2 _ _ => ?_)
  obtain ⟨rfl, hn⟩ := hu
  have hsp : prow most (prow 64 piv) b = prep (prow 64 piv) n [] b2 := by unfold prow; exact andP_some e
  replace F_p := l2.pv F_p
  clear h2 l2 e
  refine ⟨[.int .i64 ((n : Nat) : Int)], rfl, rfl, ?_⟩
  refine sat_loop (fun Kn vs W => ∃ (k : Nat) (acc : List (List Iv)) (b' : List Nat) (A : Option Addr) (c : Nat), vs = [.int .i64 ((k : Nat) : Int), .slice A acc.length c] ∧ k = Kn ∧ k + acc.length ≤ most ∧ Sx.RdS 80 (Sx.rfr Sx.nkI rfl w g) W g b' ∧ Sx.GrN (Sx.kF w.heap.size (Sx.kL Sx.kI)) (Sx.rfr Sx.nkI rfl w g) 45 W (.slice A acc.length c) acc g ∧ prow most (prow 64 piv) b = prep (prow 64 piv) k acc b' ∧ Sx.PV W p (.pointer (some ⟨g, 0, none⟩)) 79) [.int .i64 ((n : Nat) : Int), .slice none 0 0] (by kernel_rfl) (fun w1 h1 => ⟨_, n, [], b2, none, 0, rfl, rfl, by simpa using hn, S2.le h1, ⟨Sx.Gr.nil (k := Sx.kF w.heap.size (Sx.kL Sx.kI)) (Nat.succ_pos _) _ _ _, fun e => by cases e⟩, hsp, h1.pv F_p⟩) ?_
  rintro Kn vs w3 h3 ⟨k, acc, b3, A, c, rfl, rfl, hk, S3, G3, hsp3, F_p⟩
  clear hsp S2 h3
  refine sat_prim (v := .bool (decide ((0 : Int) < ((k : Nat) : Int)))) (by kernel_rfl) ?_
  cases k with
  | zero =>
    refine sat_falseP (b := decide ((0 : Int) < ((0 : Nat) : Int))) (by kernel_rfl) rfl ?_
    exact sat_ret (.slice A acc.length c) (by kernel_rfl) fun w9 h9 => ⟨_, _, hsp3, ⟨A, c, rfl, (G3.le h9).done⟩, (S3.le h9).rd⟩
  | succ k =>
    refine sat_trueP (b := decide ((0 : Int) < ((k + 1 : Nat) : Int))) (by kernel_rfl) (decide_eq_true (by omega)) ?_
    have hsp4 : prow most (prow 64 piv) b = andP ((prow 64 piv) b3) fun x b' => prep (prow 64 piv) k (acc ++ [x]) b' := hsp3
    refine Sx.sat_rcallv (p := (prow 64 piv) b3) (first := #[]) (caps := #[.pointer (some ⟨p, 0, none⟩)]) S3 (by kernel_rfl) (by kernel_rfl) #[.pointer (some ⟨p, 0, none⟩)] (by kernel_rfl) (fun w2 h2 W2 => get2_any g b3 _ W2 p ⟨(h2.pv F_p).box, fun e => (h2.pv F_p).nb.2.2 (e ▸ (S3.le h2).bg), (h2.pv F_p).nb.1⟩) (fun e _ => ⟨rfl, by rw [hsp4]; exact andP_none e⟩) (fun w4 o4 x b4 u e h4 l4 hu S4 kp mvf => ?_)
    have hsp5 := hsp4.trans (andP_some e)
    obtain ⟨C, d, rfl, R1⟩ := hu
    have G4 := G3.rd l4 kp
    replace R1 := R1.mv mvf
    replace F_p := l4.pv F_p
    clear hsp3 hsp4 h4 l4 kp e S3 G3 mvf
    refine ⟨[.slice C x.length d], rfl, rfl, ?_⟩
    refine Sx.sat_push1 (k := (Sx.kL Sx.kI)) (j := 8) x [.slice C x.length d] G4 S4 (by kernel_rfl) (by kernel_rfl) (fun y hy => by obtain rfl := List.mem_singleton.1 hy; rfl) (fun r => by kernel_rfl) rfl (fun w' h' => ⟨C, d, rfl, R1.mv h'.mvF⟩) (by unfold maxLen; omega) (by omega) fun r A' c' o5 l5 _ S5 G5 => ?_
    replace F_p := l5.pv F_p
    refine sat_prim (v := .int .i64 ((k : Nat) : Int)) (Eq.trans (b := some (.int .i64 (IntKind.i64.wrap (((k + 1 : Nat) : Int) - 1)))) (by kernel_rfl) (sml (by omega) (by omega))) ?_
    exact sat_back [.int .i64 ((k : Nat) : Int), .slice A' (acc ++ [x]).length c'] (by kernel_rfl) fun w9 h9 => ⟨_, by omega, k, acc ++ [x], b4, A', c', rfl, rfl, by rw [List.length_append]; simp only [List.length_cons, List.length_nil]; omega, S5.le h9, G5.le h9, hsp5, h9.pv F_p⟩

def tr_rrowLT : Sx.Tree := .call 45 [.one (.lf 0), .one (.lf 1)] .one (.loop 0 [.lf 3, .nil] (.prim (.bin .gtr) [.lf 4, .num .i64 0] (.ite (.lf 6) (.callv (.lf 2) [] .one (.row 46 [.lf 7] 1 [.lf 7] (.app 46 1 24 (.lf 5) (.lf 8) (.prim (.bin .sub) [.lf 4, .num .i64 1] (.back 0 [.lf 10, .lf 9]))))) (.ret (.one (.lf 5))))))
theorem tr_rrowLT_eq : Sx.treeEs Try.prog 51 [] [] [999999] [(false, 1), (false, 1), (false, 1)] = some tr_rrowLT := by kernel_rfl

theorem rrowLT_any (g : Nat) (b : List Nat) (most : Nat) (hmost : most ≤ 1000) (w : World) (hW : Sx.RdW 80 w g b) (p : Nat) (h_p : Box w p [.pointer (some ⟨g, 0, none⟩)] 79 ∧ p ≠ g ∧ p < w.heap.size) : Calls Try.prog 51 #[.pointer (some ⟨g, 0, none⟩), .int .i64 ((most : Nat) : Int), .func (.func 52) #[] #[.pointer (some ⟨p, 0, none⟩)]] w (Sx.RdOut 80 w g (prow most (prow 64 ptb) b) (RvL (Sx.kL Sx.kT))) := by
  refine Sx.runR Sx.nkI rfl rfl hW [] [999999] (ls := [.pointer (some ⟨g, 0, none⟩), .int .i64 ((most : Nat) : Int), .func (.func 52) #[] #[.pointer (some ⟨p, 0, none⟩)]]) (shs := [(false, 1), (false, 1), (false, 1)]) tr_rrowLT_eq rfl (by decide) fun S0 => ?_
  unfold tr_rrowLT
  have F_p : Sx.PV ⟨w, [], [g]⟩ p (.pointer (some ⟨g, 0, none⟩)) 79 := ⟨⟨h_p.2.2, (⟨fun e => (by cases e), fun e => h_p.2.1 (List.mem_singleton.1 e)⟩ : _ ∧ _)⟩, h_p.1⟩
  refine Sx.sat_rcall (p := pnum most b) S0 #[.pointer (some ⟨g, 0, none⟩), .int .i64 ((most : Nat) : Int)] (by kernel_rfl) (fun w2 h2 W2 => rnum_any g b most (by omega) _ W2) (fun e _ => ⟨rfl, by unfold prow; exact andP_none e⟩) (fun w2 o2 n b2 u e h2 l2 hu S2 _ _ => ?_)
  obtain ⟨rfl, hn⟩ := hu
  have hsp : prow most (prow 64 ptb) b = prep (prow 64 ptb) n [] b2 := by unfold prow; exact andP_some e
  replace F_p := l2.pv F_p
  clear h2 l2 e
  refine ⟨[.int .i64 ((n : Nat) : Int)], rfl, rfl, ?_⟩
  refine sat_loop (fun Kn vs W => ∃ (k : Nat) (acc : List (List Tb)) (b' : List Nat) (A : Option Addr) (c : Nat), vs = [.int .i64 ((k : Nat) : Int), .slice A acc.length c] ∧ k = Kn ∧ k + acc.length ≤ most ∧ Sx.RdS 80 (Sx.rfr Sx.nkI rfl w g) W g b' ∧ Sx.GrN (Sx.kF w.heap.size (Sx.kL Sx.kT)) (Sx.rfr Sx.nkI rfl w g) 46 W (.slice A acc.length c) acc g ∧ prow most (prow 64 ptb) b = prep (prow 64 ptb) k acc b' ∧ Sx.PV W p (.pointer (some ⟨g, 0, none⟩)) 79) [.int .i64 ((n : Nat) : Int), .slice none 0 0] (by kernel_rfl) (fun w1 h1 => ⟨_, n, [], b2, none, 0, rfl, rfl, by simpa using hn, S2.le h1, ⟨Sx.Gr.nil (k := Sx.kF w.heap.size (Sx.kL Sx.kT)) (Nat.succ_pos _) _ _ _, fun e => by cases e⟩, hsp, h1.pv F_p⟩) ?_
  rintro Kn vs w3 h3 ⟨k, acc, b3, A, c, rfl, rfl, hk, S3, G3, hsp3, F_p⟩
  clear hsp S2 h3
  refine sat_prim (v := .bool (decide ((0 : Int) < ((k : Nat) : Int)))) (by kernel_rfl) ?_
  cases k with
  | zero =>
    refine sat_falseP (b := decide ((0 : Int) < ((0 : Nat) : Int))) (by kernel_rfl) rfl ?_
    exact sat_ret (.slice A acc.length c) (by kernel_rfl) fun w9 h9 => ⟨_, _, hsp3, ⟨A, c, rfl, (G3.le h9).done⟩, (S3.le h9).rd⟩
  | succ k =>
    refine sat_trueP (b := decide ((0 : Int) < ((k + 1 : Nat) : Int))) (by kernel_rfl) (decide_eq_true (by omega)) ?_
    have hsp4 : prow most (prow 64 ptb) b = andP ((prow 64 ptb) b3) fun x b' => prep (prow 64 ptb) k (acc ++ [x]) b' := hsp3
    refine Sx.sat_rcallv (p := (prow 64 ptb) b3) (first := #[]) (caps := #[.pointer (some ⟨p, 0, none⟩)]) S3 (by kernel_rfl) (by kernel_rfl) #[.pointer (some ⟨p, 0, none⟩)] (by kernel_rfl) (fun w2 h2 W2 => get3_any g b3 _ W2 p ⟨(h2.pv F_p).box, fun e => (h2.pv F_p).nb.2.2 (e ▸ (S3.le h2).bg), (h2.pv F_p).nb.1⟩) (fun e _ => ⟨rfl, by rw [hsp4]; exact andP_none e⟩) (fun w4 o4 x b4 u e h4 l4 hu S4 kp mvf => ?_)
    have hsp5 := hsp4.trans (andP_some e)
    obtain ⟨C, d, rfl, R1⟩ := hu
    have G4 := G3.rd l4 kp
    replace R1 := R1.mv mvf
    replace F_p := l4.pv F_p
    clear hsp3 hsp4 h4 l4 kp e S3 G3 mvf
    refine ⟨[.slice C x.length d], rfl, rfl, ?_⟩
    refine Sx.sat_push1 (k := (Sx.kL Sx.kT)) (j := 8) x [.slice C x.length d] G4 S4 (by kernel_rfl) (by kernel_rfl) (fun y hy => by obtain rfl := List.mem_singleton.1 hy; rfl) (fun r => by kernel_rfl) rfl (fun w' h' => ⟨C, d, rfl, R1.mv h'.mvF⟩) (by unfold maxLen; omega) (by omega) fun r A' c' o5 l5 _ S5 G5 => ?_
    replace F_p := l5.pv F_p
    refine sat_prim (v := .int .i64 ((k : Nat) : Int)) (Eq.trans (b := some (.int .i64 (IntKind.i64.wrap (((k + 1 : Nat) : Int) - 1)))) (by kernel_rfl) (sml (by omega) (by omega))) ?_
    exact sat_back [.int .i64 ((k : Nat) : Int), .slice A' (acc ++ [x]).length c'] (by kernel_rfl) fun w9 h9 => ⟨_, by omega, k, acc ++ [x], b4, A', c', rfl, rfl, by rw [List.length_append]; simp only [List.length_cons, List.length_nil]; omega, S5.le h9, G5.le h9, hsp5, h9.pv F_p⟩

end Go.Proofs.Ytpkfjfpknbhekaa
namespace Go.Proofs.Ytpkfjfpknbhekaa
open Go.RowKit Pl
open Sx (sat_call sat_chk sat_prim sat_ite sat_true sat_false sat_trueP sat_falseP sat_ret all_nil all_cons okB okS okI)
namespace Sx
/-- A piece of code, by its tree, in two parts. -/
theorem wp_seq_sx {P : Program} {fn : Func} {c1 c2 : Code} {es1 es2 : List Nat} {σ : St} {ρ : List Value} {w0 : Fr} {a : Act} {t : Tree} {R : Value → World → Prop} {Pn : List PanicEntry → World → Prop} {Q : Exit → Act → World → Prop} (hm : P.follows .mixedOrders = true) (hfr : ∀ g ∈ w0.fr, g < w0.heap.size)
    (ht : exC P fn [] es1 0 c1 σ (fun σ' => exC P fn [] es2 0 c2 σ' (retK P fn) []) [] = some t) (hb : σ.bx = []) (hk : σ.kb = []) (hn : ρ.length = σ.n) (hsz : a.tmps.size = σ.size) (htm : ∀ t T, σ.get t = some T → ∀ l m, a.tmps[t]? = some (T.den (ρ ++ l) m)) (hdf : DfPin w0 σ.pin a)
    (hs : sat P w0 R Pn t ρ ⟨w0.toWorld, [], w0.fr⟩) (hQ : ∀ c a w, DfOk w0 a → Pn c w → BelowF w0 w → Q (.panic c) a w) (hPf : ∀ c d v a w, (∀ t, d = some t → ∀ q ∈ w0.pn, q.1 ≠ t) → Q (.panic c) (a.put d v) w → Q (.panic c) a w)
    (hN : ∀ a w v, DfOk w0 a → R v w → BelowF w0 w → Q .normal a w ∧ Q .ret a w) : (Code.seq c1 c2).wp P Q a w0.toWorld := by
  have hwf : WF w0 ⟨w0.toWorld, [], w0.fr⟩ := ⟨fun g h => (by cases h), fun g h => ⟨.inl h, hfr g h, fun h => by cases h⟩⟩
  have hM : M w0 σ ρ [] a w0.toWorld := ⟨⟨hsz, fun t T hT l m => by simpa using htm t T hT l m, fun b e he => (by rw [hb] at he; simp at he), fun j b hj => (by rw [hk] at hj; simp [lookN] at hj)⟩, fun b b' g hg => (by simp at hg), by rw [hb]; rfl, hn, BelowF.refl _, hdf⟩
  have fin : ∀ (Bk : Back) (a : Act) (w : World), Good P w0 R Pn Bk (Pre [] []) ⟨w0.toWorld, [], w0.fr⟩ (retK P fn) a w → Q .normal a w ∧ Q .ret a w := by
    rintro Bk a w ⟨ow, σ', t', ρ', β', rfl, e1, _, _, e4, e2, e3⟩
    obtain ⟨_, v, _, h2, h3⟩ := ret_post e1 e2 e4 e3
    exact hN a _ v e2.df.ok h2 h3
  refine wp_seq (exC_sound hm fn [] es1 c1 0 _ (fun σ' => exC P fn [] es2 0 c2 σ' (retK P fn) []) [] (fun _ _ _ => False) [] [] ⟨w0.toWorld, [], w0.fr⟩ σ ρ [] a ⟨w0.toWorld, [], w0.fr⟩ t hQ hPf ?_ (fun id Kb hl => by cases hl) (fun Bk' _ a w hG => (fin Bk' a w hG).2) hM ⟨fun g h => (by cases h), hwf⟩ (Le.refl hwf (BelowF.refl _)).toLf ⟨List.nil_prefix, List.nil_prefix⟩ ht hs)
  rintro Bk' _ a' w' ⟨ow, σ', t', ρ', β', rfl, e1, e2, e3, e4, e5, e6⟩
  exact exC_sound hm fn [] es2 c2 0 Q (retK P fn) [] Bk' [] [] ⟨w0.toWorld, [], w0.fr⟩ σ' ρ' β' a' ow t' hQ hPf (fun Bk2 _ a w hG => (fin Bk2 a w hG).1) (fun id Kb hl => by cases hl) (fun Bk2 _ a w hG => (fin Bk2 a w hG).2) e5 e4 e3 e2 e1 e6
/-- A variable that may be written through a pointer. -/
structure BB (w0 : Fr) (w : OW) (g : Nat) (vs : List Value) (ty : TypeId) : Prop where
  box : Box w.toWorld g vs ty
  bg : g ∈ w.bld
  ok : ∀ v ∈ vs, LeafN w0 v
theorem BB.le {w0 : Fr} {w w' : OW} {g : Nat} {vs : List Value} {ty : TypeId} (h : BB w0 w g vs ty) (hl : Le w0 w w') : BB w0 w' g vs ty :=
  ⟨by unfold Box; rw [hl.keepB g h.bg]; exact h.box, hl.bld g h.bg, h.ok⟩
theorem BB.kept {w0 : Fr} {w w' : OW} {g q : Nat} {vs : List Value} {ty : TypeId} (h : BB w0 w g vs ty) (hk : Kept w w' q) (hne : g ≠ q) : BB w0 w' g vs ty :=
  ⟨by unfold Box; rw [(hk g h.bg hne).1]; exact h.box, (hk g h.bg hne).2, h.ok⟩
theorem RdS.kept {ty : TypeId} {w0 : Fr} {w w' : OW} {g q : Nat} {b : List Nat} (h : RdS ty w0 w g b) (hl : Lf w0 w w') (hk : Kept w w' q) (hne : g ≠ q) : RdS ty w0 w' g b := by
  obtain ⟨A, c, h1, h2, h3⟩ := h.rd
  exact ⟨(hk g h.bg hne).2, h.nk, A, c, by unfold Box; rw [(hk g h.bg hne).1]; exact h1, hl.rdk h.nk h2, h3⟩
section
variable {w0 : Fr} {w w' : OW} {R : Value → World → Prop} {Pn : List PanicEntry → World → Prop} {Bk : Back} {ρ : List Value} {t t' : Tree}
/-- Cells of a variable are stored. -/
theorem sat_fstG {ty t1 : TypeId} {x : At} {y : Tm} {p off : Nat} {vs : List Value} (us : List Value) (v : Value) (hB : BB w0 w p vs t1) (hx : x.den ρ [] = .pointer (some ⟨p, off, none⟩)) (hy : y.den ρ [] = v) (hc : v.cells = us.toArray) (hty : szOf Try.prog ty = some us.length) (hl : off + us.length ≤ vs.length) (hok : ∀ u ∈ us, LeafN w0 u)
    (h : ∀ ow, Lf w0 w ow → Kept w ow p → BB w0 ow p (vs.take off ++ us ++ vs.drop (off + us.length)) t1 → satB Try.prog w0 R Pn Bk t ρ ow) : satB Try.prog w0 R Pn Bk (.fst ty x y t) ρ w := by
  refine ⟨⟨p, off, none⟩, hx, fun w1 h1 => ?_⟩
  have hB1 := hB.le h1
  have hst := store_ok (P := Try.prog) (off := off) (us := us) (v := v) hty hB1.box hc rfl hl (fun u hu => (hok u hu).1)
  have hE := Eff.setRow h1.wf h1.b hB1.box hB1.ok hB1.bg (vs.take off ++ us ++ vs.drop (off + us.length)).toArray
  refine ⟨⟨w1.setRow p (vs.take off ++ us ++ vs.drop (off + us.length)).toArray, w1.own, w1.bld⟩, by rw [hy]; exact hst, hE, h _ (h1.toLf.trans hE.toLf) (fun q hq hn => ⟨(setRow_other w1.toWorld p q _ hn).trans (h1.keepB q hq), h1.bld q hq⟩) ⟨setRow_heap w1.toWorld p _ _ t1 (0, 0) hB1.box, hB1.bg, fun u hu => ?_⟩⟩
  rcases List.mem_append.1 hu with hu | hu
  · rcases List.mem_append.1 hu with hu | hu
    · exact hB.ok u (List.mem_of_mem_take hu)
    · exact hok u hu
  · exact hB.ok u (List.mem_of_mem_drop hu)
/-- All of a variable is loaded. -/
theorem sat_bloadA {ty t1 : TypeId} {x : At} {g n : Nat} {vs : List Value} (hB : BB w0 w g vs t1) (hx : x.den ρ [] = .pointer (some ⟨g, 0, none⟩)) (hn : vs.length = n) (h1 : szOf Try.prog ty = some n) (h2 : rowB Try.prog ty = some true)
    (h : satB Try.prog w0 R Pn Bk t (ρ ++ vs) w) : satB Try.prog w0 R Pn Bk (.loadm ty x (.ag n) t) ρ w := fun w' hl => by
  have hb := (hB.le hl).box
  have := load_range h1 h2 (cs := vs) (w := w'.toWorld) (g := g) (off := 0) (fun j u hu => by rw [hb.get, Nat.zero_add]; exact hu) hn
  refine ⟨vs, _, hn, hx, ?_, sat_mono Try.prog h hl⟩
  simp only [Sh.val]
  rw [List.take_of_length_le (by rw [hn]; exact Nat.le_refl _)]
  exact this
theorem sat_pvL {ty t1 : TypeId} {x : At} {p : Nat} {u : Value} (hp : PV w p u t1) (hx : x.den ρ [] = .pointer (some ⟨p, 0, none⟩)) (h2 : rowB Try.prog ty = some false)
    (h : satB Try.prog w0 R Pn Bk t (ρ ++ [u]) w) : satB Try.prog w0 R Pn Bk (.load ty x .one t) ρ w :=
  sat_box u hp.box hx rfl h2 (fun _ hl => hl.keep p hp.nb.1 hp.nb.2.1 hp.nb.2.2) h
/-- A call of a function that reads, where what is kept is told behind a panic, too. -/
theorem sat_rcallQ {X : Type} {ty : TypeId} {f : FuncId} {args : List Tm} {sh : Sh} {g : Nat} {b : List Nat} {p : Option (X × List Nat)} {RV : World → X → World → Value → Prop} (S : RdS ty w0 w g b) (vs : Array Value) (has : (args.map (Tm.den ρ [])).toArray = vs)
    (h : ∀ w1 : OW, Le w0 w w1 → RdW ty w1.toWorld g b → Calls Try.prog f vs w1.toWorld (RdOut ty w1.toWorld g p RV))
    (hp : p = none → ∀ ow : OW, Kept w ow g → Pn [wrongE] ow.toWorld)
    (k : ∀ (w1 ow : OW) x b' u, p = some (x, b') → Le w0 w w1 → Lf w0 w ow → RV w1.toWorld x ow.toWorld u → RdS ty w0 ow g b' → Kept w ow g → Mv ow.toWorld ow.toWorld (fun q => w1.heap.size ≤ q) (fun q => w0.heap.size ≤ q ∧ NB ow q) → ∃ l, sh.val l = u ∧ l.length = sh.len ∧ satB Try.prog w0 R Pn Bk t (ρ ++ l) ow) :
    satB Try.prog w0 R Pn Bk (.call f args sh t) ρ w :=
  sat_callE vs has fun w1 h1 => (h w1 h1 (S.le h1).rd).mono fun e w2 hc => by
    rcases hc with ⟨x, b', u, e1, rfl, e3, e4, e5⟩ | ⟨e1, rfl, e5⟩
    · exact rd_after S h1 (.inl ⟨x, b', u, e1, rfl, e3, e4, e5⟩) (fun e => by rw [e1] at e; cases e) k
    · have S1 := S.le h1
      obtain ⟨hE, keep⟩ := S1.rd.eff h1.wf h1.b S1.bg e5
      exact .inr ⟨_, rfl, hE.b, hp e1 ⟨w2, w1.own, w1.bld⟩ fun q hq hn => ⟨(keep q (h1.wf.bld q (h1.bld q hq)).2.1 hn).trans (h1.keepB q hq), h1.bld q hq⟩⟩
end
end Sx
set_option maxHeartbeats 1000000 in
theorem equalB_any (A : Option Addr) (n c : Nat) (xs : List Nat) (B : Option Addr) (m d : Nat) (ys : List Nat) (w : World) (h : RdN .u8 w A n c xs) (k : RdN .u8 w B m d ys) :
    Calls Try.prog 55 #[.slice A n c, .slice B m d] w fun e w' => e = .returned (.bool (decide (xs = ys))) ∧ Below w.heap.size w w' := by
  obtain ⟨hlen, hcap, hmax, hat⟩ := h
  obtain ⟨klen, kcap, kmax, kat⟩ := k
  unfold maxLen at hmax kmax
  subst hlen klen
  by_cases hl : xs.length = ys.length
  · have el : ((xs.length : Int) != (ys.length : Int)) = false := by simp [hl]
    have HL := hide hl
    have hl1 : xs.length ≤ ys.length := by omega
    clear hl
    go_enter Try.func55, Try.ntmps55
    go_wp2
    go_loopw [13] (fun i wr => ∃ q : Nat, q ≤ xs.length ∧ i = .int .i64 (q : Int) ∧ Hid (∀ k, k < q → nth xs k = nth ys k) ∧ Below w.heap.size w wr) (fun i _ => xs.length - (intOf i).toNat)
    case atStart => exact ⟨0, Nat.zero_le _, rfl, fun k hk => absurd hk (by omega), Below.refl _ _⟩
    case round =>
      obtain ⟨q, hq, rfl, hT, hbw⟩ := hrel
      rcases Nat.lt_or_ge q xs.length with hlt | hge
      · obtain ⟨b, off, rfl, hb, hc⟩ := hat (by omega)
        obtain ⟨b2, off2, rfl, hb2, hc2⟩ := kat (by omega)
        have hcell := RdN.cellW hc hb hbw q hlt
        have hcell2 := RdN.cellW hc2 hb2 hbw q (by omega)
        have i1 : (0 : Int) ≤ (q : Int) := by omega
        have i2 : (q : Int) < (xs.length : Int) := by omega
        have i3 : (q : Int) < (ys.length : Int) := by omega
        clear hat kat hc hc2
        by_cases he : nth xs q = nth ys q
        · have e1 : ((nth xs q : Int) != (nth ys q : Int)) = false := by rw [he]; simp
          have hT2 : Hid (∀ k, k < q + 1 → nth xs k = nth ys k) := fun k hk => by
            rcases Nat.lt_or_ge k q with h1 | h1
            · exact hT.out k h1
            · rw [show k = q by omega]; exact he
          clear hT he
          go_wp2_with fail
          go_quiet (fail)
          have hb3 := below_drewN hbw nq
          go_wp2
          go_roundw
          case rel => exact ⟨q + 1, by omega, by go_num, hT2, hb3⟩
          case measure => simp [intOf]; omega
        · have e1 : ((nth xs q : Int) != (nth ys q : Int)) = true := by rw [bne_iff_ne]; omega
          have hne : Hid (decide (xs = ys) = false) := by
            unfold Hid
            rw [decide_eq_false_iff_not]
            intro e
            exact he (by rw [e])
          clear hT he
          go_wp2_with fail
          go_quiet (fail)
          have hb3 := below_drewN hbw nq
          go_wp2
          go_ret
          exact ⟨ret_bool hne.out.symm, hb3⟩
      · obtain rfl : q = xs.length := by omega
        have heq : Hid (decide (xs = ys) = true) := by
          unfold Hid
          rw [decide_eq_true_iff]
          exact nth_ext HL.out hT.out
        clear hat kat hT
        go_wp2
        go_ret
        exact ⟨ret_bool heq.out.symm, hbw⟩
  · have el : ((xs.length : Int) != (ys.length : Int)) = true := by rw [bne_iff_ne]; omega
    have hne : Hid (decide (xs = ys) = false) := by
      unfold Hid
      rw [decide_eq_false_iff_not]
      intro e
      exact hl (by rw [e])
    clear hl
    go_enter Try.func55, Try.ntmps55
    go_wp2
    go_ret
    exact ⟨ret_bool hne.out.symm, Below.refl _ _⟩

theorem ta_nilG (w : World) : (Instr.typeAssert .nilIface 20 77 true).run Try.prog w = .ok (.tuple #[.agg #[], .bool false]) w := by kernel_rfl
theorem ta_wrongG (w : World) : (Instr.typeAssert (.iface 77 (.agg #[])) 20 77 true).run Try.prog w = .ok (.tuple #[.agg #[], .bool true]) w := by kernel_rfl
set_option maxRecDepth 100000 in
set_option maxHeartbeats 1000000 in
/-- Get's deferred closure behind a return. -/
theorem get1_idle (p q : Addr) (w : World) :
    CallsD Try.prog 44 #[.pointer (some p), .pointer (some q)] .returning w fun e u' w' => e = .returned (.tuple #[]) ∧ u' = .returning ∧ Below w.heap.size w w' := by
  refine callsD_of_wpS Try.func44 rfl fun c₀ cs hu => ?_
  apply wpS_seq
  apply wpS_region
  simp [wpOpsS, go_sem, recoverD, hu, Try.ntmps44, Exit.thenS, ta_nilG]
  refine wpS_of_wp ?_
  go_wp2
  have hbel : Below w.heap.size w (w.alloc (.cells #[] 77)) := by go_grown
  cases c₀
  simp_all [bodyPostS, results, Try.results44]
/-- What the deferred closure does behind a panic: the tree of its last part. -/
def zRec : List Value := [.int .i64 0, .int .i64 0, .int .i64 0, .bool false, .slice none 0 0, .int .i64 0, .bool false, .slice none 0 0, .int .i64 0, .slice none 0 0, .slice none 0 0]
theorem zRec_ok : ∀ u ∈ zRec, Sx.LeafOk u := by
  intro u hu
  unfold zRec at hu
  simp only [List.mem_cons, List.not_mem_nil, or_false] at hu
  rcases hu with rfl | rfl | rfl | rfl | rfl | rfl | rfl | rfl | rfl | rfl | rfl <;> first | exact okS _ _ _ | exact okI _ | exact okB _
def tr_get1 : Sx.Tree := .fst 28 (.lf 0) (.ag [.num .i64 0, .num .i64 0, .num .i64 0, .bit false, .nil, .num .i64 0, .bit false, .nil, .num .i64 0, .nil, .nil]) (.fst 3 (.lf 1) (.one (.num .i64 9)) (.ret (.tup [])))
/-- A frame in which some blocks may change. -/
def gfr (w : World) (fr : List Nat) (df : List Deferred) (pn : List (Nat × Value)) : Sx.Fr := ⟨w, fr, Sx.nkI, rfl, df, w.heap.size, Nat.le_refl _, pn⟩
set_option maxRecDepth 100000 in
set_option maxHeartbeats 1000000 in
theorem get1_caught (g1 g2 : Nat) (vs : List Value) (x : Value) (w : World) (h1 : Box w g1 vs 28) (h2 : Box w g2 [x] 3) (hl : vs.length = 11) (hv : ∀ v ∈ vs, Sx.LeafOk v) (hx : Sx.LeafOk x) (hne : g1 ≠ g2) :
    CallsD Try.prog 44 #[.pointer (some ⟨g1, 0, none⟩), .pointer (some ⟨g2, 0, none⟩)] (.panicking [Sx.wrongE]) w fun e u' w' =>
      e = .returned (.tuple #[]) ∧ u' = .panicking [{ v := .iface 77 (.agg #[]), recovered := true }] ∧ Sx.BelowF (gfr w [g1, g2] [] []) w' ∧ Box w' g1 zRec 28 ∧ Box w' g2 [.int .i64 9] 3 := by
  refine callsD_of_wpS Try.func44 rfl fun c₀ cs hu => ?_
  unfold Sx.wrongE at hu
  apply wpS_seq
  apply wpS_region
  simp [wpOpsS, go_sem, recoverD, hu, Try.ntmps44, Exit.thenS, ta_wrongG]
  refine wpS_of_wp ?_
  simp [Array.replicate]
  have hb0 : Below w.heap.size w (w.alloc (.cells #[] 77)) := by go_grown
  have k1 := h1.keep hb0
  have k2 := h2.keep hb0
  generalize w.alloc (.cells #[] 77) = W at *
  refine Sx.wp_seq_sx (w0 := gfr W [g1, g2] [] []) (fn := (default : Func)) (es1 := []) (es2 := []) (σ := ⟨[(0, some (.one (.lf 0))), (1, some (.one (.lf 1))), (3, some (.one (.bit true)))], [], [], 2, 11, []⟩) (ρ := [.pointer (some ⟨g1, 0, none⟩), .pointer (some ⟨g2, 0, none⟩)]) (t := tr_get1) (R := fun _ w' => Box w' g1 zRec 28 ∧ Box w' g2 [.int .i64 9] 3) (Pn := fun _ _ => False) Sx.mixed (fun g hg => ?_) (by kernel_rfl) rfl rfl rfl (by rfl) ?_ ⟨rfl, fun q hq => by cases hq⟩ ?_ (fun c a w _ hf => hf.elim) ?_ ?_
  · have hg : g ∈ [g1, g2] := hg
    rcases List.mem_cons.1 hg with rfl | hg
    · exact k1.lt
    · obtain rfl := List.mem_singleton.1 hg
      exact k2.lt
  · intro t T hT l m
    match t, hT with
    | 0, h => have h : some (Sx.Tm.one (.lf 0)) = some T := h; injection h with h; subst h; rfl
    | 1, h => have h : some (Sx.Tm.one (.lf 1)) = some T := h; injection h with h; subst h; rfl
    | 2, h => have h : none = some T := h; cases h
    | 3, h => have h : some (Sx.Tm.one (.bit true)) = some T := h; injection h with h; subst h; rfl
    | t + 4, h => simp [Sx.St.get, Sx.lookN] at h
  · have b1 : Sx.BB (gfr W [g1, g2] [] []) ⟨W, [], [g1, g2]⟩ g1 vs 28 := ⟨k1, List.mem_cons_self .., fun v hv' => (hv v hv').n _⟩
    have b2 : Sx.BB (gfr W [g1, g2] [] []) ⟨W, [], [g1, g2]⟩ g2 [x] 3 := ⟨k2, List.mem_cons_of_mem _ (List.mem_cons_self ..), fun v hv' => by obtain rfl := List.mem_singleton.1 hv'; exact hx.n _⟩
    unfold tr_get1
    refine Sx.sat_fstG (off := 0) zRec (.agg zRec.toArray) b1 (by kernel_rfl) (by kernel_rfl) (by kernel_rfl) (by kernel_rfl) (by rw [hl]; decide) (fun u hu => (zRec_ok u hu).n _) fun o1 l1 kp1 c1 => ?_
    refine Sx.sat_fstG (off := 0) [.int .i64 9] (.int .i64 9) (b2.kept kp1 hne.symm) (by kernel_rfl) (by kernel_rfl) rfl (by kernel_rfl) (by simp) (fun u hu => by obtain rfl := List.mem_singleton.1 hu; exact (okI _).n _) fun o2 l2 kp2 c2 => ?_
    have c3 := c1.kept kp2 hne
    rw [show vs.take 0 ++ zRec ++ vs.drop (0 + zRec.length) = zRec by rw [List.drop_of_length_le (by rw [hl]; decide)]; simp] at c3
    exact sat_ret (.tuple #[]) (by kernel_rfl) fun w9 h9 => ⟨(c3.le h9).box, (c2.le h9).box⟩
  · exact fun c d v a w _ h => ⟨(Sx.put_defers _ _ _).symm.trans h.1, h.2⟩
  · rintro a w' v hd ⟨q1, q2⟩ hb
    have hbf : Sx.BelowF (gfr w [g1, g2] [] []) w' := Sx.BelowF.trans (w1 := gfr W [g1, g2] [] []) (Sx.BelowF.of hb0) hb fun g hg => .inl hg
    exact ⟨⟨hd.1, _, rfl, .tuple #[], by simp [results, Try.results44], rfl, rfl, hbf, q1, q2⟩, ⟨hd.1, _, rfl, .tuple #[], by simp [results, Try.results44], rfl, rfl, hbf, q1, q2⟩⟩
end Go.Proofs.Ytpkfjfpknbhekaa
namespace Go.Proofs.Ytpkfjfpknbhekaa
open Go.RowKit Pl
open Sx (sat_call sat_chk sat_prim sat_ite sat_true sat_false sat_trueP sat_falseP sat_ret all_nil all_cons okB okS okI)
def zeroR : Rec := ⟨0, 0, 0, Dy.zero, Dy.zero, [], []⟩
/-- What Get gives. -/
def getS (b : List Nat) : Rec × Int := match prec b with
  | some (x, _) => bif mayR x && decide (recB x = b) then (x, 0) else (zeroR, 9)
  | none => (zeroR, 9)
def GetTup (w w' : World) (e : Ending) (b : List Nat) : Prop := ∃ v, e = .returned (.tuple #[v, .int .i64 (getS b).2]) ∧ RcAt (fun q => w.heap.size ≤ q) w' v (getS b).1
def sq1 : Code → Code
  | .seq a _ => a
  | c => c
def sq2 : Code → Code
  | .seq _ b => b
  | c => c
noncomputable def gBody : Code := (Try.f12.body).getD .skip
noncomputable def gTail : Code := sq2 (sq2 (sq2 gBody))
theorem gBody_eq : Try.f12.body = some (.seq (sq1 gBody) (.seq (sq1 (sq2 gBody)) (.seq (sq1 (sq2 (sq2 gBody))) gTail))) := by kernel_rfl
theorem Sx.Rows.rdn {ok : Nat → Prop} {w : World} {A : Option Addr} {n c : Nat} {l : List Nat} (h : Sx.Rows Sx.kB ok w A n c l) : RdN .u8 w A n c l := by
  refine ⟨h.len, h.cap, h.max, fun hn => ?_⟩
  obtain ⟨g, off, h1, h2, _, h4⟩ := h.at_ hn
  refine ⟨g, off, h1, h2, fun k hk => ?_⟩
  obtain ⟨x, hx⟩ : ∃ x, l[k]? = some x := ⟨_, List.getElem?_eq_getElem (by rw [h.len]; exact hk)⟩
  obtain ⟨cs, rfl, e2⟩ := h4 k x hx
  have := e2 0 _ rfl
  rw [show off + k * Sx.kB.sz + 0 = off + k by show off + k * 1 + 0 = off + k; omega] at this
  rw [this]
  unfold nth
  rw [List.getD_eq_getElem?_getD, hx]
  rfl
theorem Sx.sat_pan {w0 : Sx.Fr} {w : Sx.OW} {R : Value → World → Prop} {Pn : List PanicEntry → World → Prop} {Bk : Sx.Back} {ρ : List Value} {x : Sx.At} {ty : TypeId} {v : Value} (hx : x.den ρ [] = .iface ty v) (h : ∀ w' : Sx.OW, Sx.Le w0 w w' → Pn [{ v := .iface ty v, recovered := false }] w'.toWorld) : Sx.satB Try.prog w0 R Pn Bk (.pan x) ρ w := ⟨ty, v, hx, h⟩
def tr_gett : Sx.Tree := .load 79 (.lf 3) .one (.load 79 (.lf 3) .one (.load 79 (.lf 3) .one (.load 79 (.lf 3) .one (.load 79 (.lf 3) .one (.call 45 [.one (.lf 4), .one (.num .i64 3)] .one (.call 45 [.one (.lf 5), .one (.num .i64 1073741824)] .one (.call 45 [.one (.lf 6), .one (.num .i64 200)] .one (.call 46 [.one (.lf 7)] (.ag 3) (.call 46 [.one (.lf 8)] (.ag 3) (.chk [.lf 9, .lf 10, .lf 11, .lf 12, .lf 13, .lf 14, .lf 15, .lf 16, .lf 17] (.fst 28 (.lf 1) (.ag [.lf 9, .lf 10, .lf 11, .lf 12, .lf 13, .lf 14, .lf 15, .lf 16, .lf 17, .nil, .nil]) (.loadm 79 (.lf 3) .one (.prim (.clo 48 0) [.lf 3] (.call 47 [.one (.lf 18), .one (.num .i64 16), .one (.lf 19)] .one (.prim (.fld 9) [.lf 1] (.fst 25 (.lf 21) (.one (.lf 20)) (.loadm 79 (.lf 3) .one (.prim (.clo 52 0) [.lf 3] (.call 51 [.one (.lf 22), .one (.num .i64 16), .one (.lf 23)] .one (.prim (.fld 10) [.lf 1] (.fst 26 (.lf 25) (.one (.lf 24)) (.loadm 28 (.lf 1) (.ag 11) (.call 9 [.ag [.lf 26, .lf 27, .lf 28, .lf 29, .lf 30, .lf 31, .lf 32, .lf 33, .lf 34, .lf 35, .lf 36]] (.tup [(false, 1), (false, 1)]) (.prim (.bin .neq) [.lf 38, .num .i64 0] (.ite (.lf 39) (.prim (.ifc 77) [] (.pan (.lf 40))) (.call 55 [.one (.lf 37), .one (.lf 0)] .one (.prim .not [.lf 40] (.ite (.lf 41) (.prim (.ifc 77) [] (.pan (.lf 42))) (.loadm 28 (.lf 1) (.ag 11) (.fst 28 (.lf 1) (.ag [.lf 42, .lf 43, .lf 44, .lf 45, .lf 46, .lf 47, .lf 48, .lf 49, .lf 50, .lf 51, .lf 52]) (.fst 3 (.lf 2) (.one (.num .i64 0)) (.ret (.tup [])))))))))))))))))))))))))))))))))
theorem gTail_seq : gTail = .seq (sq1 gTail) (sq2 gTail) := by kernel_rfl
theorem tr_gett_eq : Sx.exC Try.prog (default : Func) [] [] 0 (sq1 gTail) ⟨[(0, some (.one (.lf 0))), (2, some (.one (.lf 1))), (3, some (.one (.lf 2))), (4, some (.one (.lf 3)))], [], [], 4, 46, [2, 3]⟩ (fun σ => Sx.exC Try.prog (default : Func) [] [999999] 0 (sq2 gTail) σ (Sx.retK Try.prog (default : Func)) []) [] = some tr_gett := by kernel_rfl
def GetR (W : World) (b : List Nat) (g1 g2 : Nat) (w' : World) : Prop := ∃ x : Rec, getS b = (x, 0) ∧ ∃ vs : List Value, vs.length = 11 ∧ Box w' g1 vs 28 ∧ Box w' g2 [.int .i64 0] 3 ∧ RcAt (fun q => W.heap.size ≤ q) w' (.agg vs.toArray) x
def GetP (b : List Nat) (g1 g2 : Nat) (c : List PanicEntry) (w' : World) : Prop := c = [Sx.wrongE] ∧ getS b = (zeroR, 9) ∧ (∃ vs : List Value, vs.length = 11 ∧ (∀ v ∈ vs, Sx.LeafOk v) ∧ Box w' g1 vs 28) ∧ ∃ x, Sx.LeafOk x ∧ Box w' g2 [x] 3
theorem leafI {W : World} {fr : List Nat} {df : List Deferred} {pn : List (Nat × Value)} {v : Value} (h : Sx.LeafN (gfr W fr df pn) v) : Sx.LeafOk v := ⟨h.1, fun K x e => eq_of_beq (show (K == IntKind.i64) = true from h.2 K x e)⟩
theorem getS_none {b : List Nat} (h : prec b = none) : getS b = (zeroR, 9) := by unfold getS; rw [h]
set_option maxHeartbeats 2000000 in
theorem gett_sat (W : World) (g1 g2 gr p : Nat) (A : Option Addr) (c : Nat) (b : List Nat) (df : List Deferred) (pn : List (Nat × Value)) (n1 : g1 ≠ gr) (n2 : g2 ≠ gr) (n3 : g1 ≠ g2) (c1 : Box W g1 zRec 28) (c2 : Box W g2 [.int .i64 0] 3) (hR : Sx.RdW 80 W gr b) (hp : Box W p [.pointer (some ⟨gr, 0, none⟩)] 79 ∧ p ≠ g1 ∧ p ≠ g2 ∧ p ≠ gr) (hb : RdN .u8 W A b.length c b) :
    Sx.sat Try.prog (gfr W [g1, g2, gr] df pn) (fun _ => GetR W b g1 g2) (GetP b g1 g2) tr_gett [.slice A b.length c, .pointer (some ⟨g1, 0, none⟩), .pointer (some ⟨g2, 0, none⟩), .pointer (some ⟨p, 0, none⟩)] ⟨W, [], [g1, g2, gr]⟩ := by
  have c1 : Sx.BB (gfr W [g1, g2, gr] df pn) ⟨W, [], [g1, g2, gr]⟩ g1 zRec 28 := ⟨c1, by simp, fun v hv => (zRec_ok v hv).n _⟩
  have c2 : Sx.BB (gfr W [g1, g2, gr] df pn) ⟨W, [], [g1, g2, gr]⟩ g2 [.int .i64 0] 3 := ⟨c2, by simp, fun v hv => by obtain rfl := List.mem_singleton.1 hv; exact (okI _).n _⟩
  have S0 : Sx.RdS 80 (gfr W [g1, g2, gr] df pn) ⟨W, [], [g1, g2, gr]⟩ gr b := ⟨by simp, rfl, hR⟩
  have hnp : p ∉ [g1, g2, gr] := by
    intro e
    simp only [List.mem_cons, List.not_mem_nil, or_false] at e
    rcases e with e | e | e
    · exact hp.2.1 e
    · exact hp.2.2.1 e
    · exact hp.2.2.2 e
  have F_p : Sx.PV ⟨W, [], [g1, g2, gr]⟩ p (.pointer (some ⟨gr, 0, none⟩)) 79 := ⟨⟨hp.1.lt, (⟨fun e => (by cases e), hnp⟩ : _ ∧ _)⟩, hp.1⟩
  have pan : ∀ {ow : Sx.OW} {vs : List Value} {x : Value}, getS b = (zeroR, 9) → Sx.BB (gfr W [g1, g2, gr] df pn) ow g1 vs 28 → Sx.BB (gfr W [g1, g2, gr] df pn) ow g2 [x] 3 → vs.length = 11 → GetP b g1 g2 [Sx.wrongE] ow.toWorld := fun h1 h3 h4 h2 => ⟨rfl, h1, ⟨_, h2, fun v hv => leafI (h3.ok v hv), h3.box⟩, _, leafI (h4.ok _ (List.mem_singleton.2 rfl)), h4.box⟩
  have hs0 : prec b = prec b := rfl
  clear hp hR
  unfold tr_gett
  refine Sx.sat_pvL F_p (by kernel_rfl) (by kernel_rfl) ?_
  refine Sx.sat_pvL F_p (by kernel_rfl) (by kernel_rfl) ?_
  refine Sx.sat_pvL F_p (by kernel_rfl) (by kernel_rfl) ?_
  refine Sx.sat_pvL F_p (by kernel_rfl) (by kernel_rfl) ?_
  refine Sx.sat_pvL F_p (by kernel_rfl) (by kernel_rfl) ?_
  refine Sx.sat_rcallQ (p := pnum 3 b) S0 #[.pointer (some ⟨gr, 0, none⟩), .int .i64 3] (by kernel_rfl) (fun w2 h2 W2 => rnum_any gr b 3 (by omega) _ W2) (fun e ow kp => pan (getS_none (by unfold prec; exact andP_none e)) (c1.kept kp n1) (c2.kept kp n2) rfl) (fun w2 o1 x1 b1 u e h2 l2 hu S1 kp mvf => ?_)
  have hs1 : prec b = andP (pnum 1073741824 b1) fun e b2 => andP (pnum 200 b2) fun c b3 => andP (pdy b3) fun t b4 => andP (pdy b4) fun h b5 => andP (prow 16 (prow 64 piv) b5) fun x b6 => andP (prow 16 (prow 64 ptb) b6) fun s b7 => some (⟨(x1 : Int), (e : Int), (c : Int), t, h, x, s⟩, b7) := by unfold prec; exact andP_some e
  obtain ⟨rfl, m1⟩ := hu
  replace c1 := c1.kept kp n1
  replace c2 := c2.kept kp n2
  replace F_p := l2.pv F_p
  replace hb := l2.rdk rfl hb
  clear h2 l2 kp mvf e S0 hs0
  refine ⟨[.int .i64 ((x1 : Nat) : Int)], rfl, rfl, ?_⟩
  refine Sx.sat_rcallQ (p := pnum 1073741824 b1) S1 #[.pointer (some ⟨gr, 0, none⟩), .int .i64 1073741824] (by kernel_rfl) (fun w2 h2 W2 => rnum_any gr b1 1073741824 (by omega) _ W2) (fun e ow kp => pan (getS_none (by rw [hs1]; exact andP_none e)) (c1.kept kp n1) (c2.kept kp n2) rfl) (fun w2 o2 x2 b2 u e h2 l2 hu S2 kp mvf => ?_)
  have hs2 := hs1.trans (andP_some e)
  obtain ⟨rfl, m2⟩ := hu
  replace c1 := c1.kept kp n1
  replace c2 := c2.kept kp n2
  replace F_p := l2.pv F_p
  replace hb := l2.rdk rfl hb
  clear h2 l2 kp mvf e S1 hs1
  refine ⟨[.int .i64 ((x2 : Nat) : Int)], rfl, rfl, ?_⟩
  refine Sx.sat_rcallQ (p := pnum 200 b2) S2 #[.pointer (some ⟨gr, 0, none⟩), .int .i64 200] (by kernel_rfl) (fun w2 h2 W2 => rnum_any gr b2 200 (by omega) _ W2) (fun e ow kp => pan (getS_none (by rw [hs2]; exact andP_none e)) (c1.kept kp n1) (c2.kept kp n2) rfl) (fun w2 o3 x3 b3 u e h2 l2 hu S3 kp mvf => ?_)
  have hs3 := hs2.trans (andP_some e)
  obtain ⟨rfl, m3⟩ := hu
  replace c1 := c1.kept kp n1
  replace c2 := c2.kept kp n2
  replace F_p := l2.pv F_p
  replace hb := l2.rdk rfl hb
  clear h2 l2 kp mvf e S2 hs2
  refine ⟨[.int .i64 ((x3 : Nat) : Int)], rfl, rfl, ?_⟩
  refine Sx.sat_rcallQ (p := pdy b3) S3 #[.pointer (some ⟨gr, 0, none⟩)] (by kernel_rfl) (fun w2 h2 W2 => rdy_any gr b3 _ W2) (fun e ow kp => pan (getS_none (by rw [hs3]; exact andP_none e)) (c1.kept kp n1) (c2.kept kp n2) rfl) (fun w2 o4 x4 b4 u e h2 l2 hu S4 kp mvf => ?_)
  have hs4 := hs3.trans (andP_some e)
  obtain ⟨A4, k4, d4, rfl, r4⟩ := hu
  replace c1 := c1.kept kp n1
  replace c2 := c2.kept kp n2
  replace F_p := l2.pv F_p
  replace hb := l2.rdk rfl hb
  clear h2 l2 kp mvf e S3 hs3
  refine ⟨[.bool x4.neg, .slice A4 k4 d4, .int .i64 x4.e], rfl, rfl, ?_⟩
  refine Sx.sat_rcallQ (p := pdy b4) S4 #[.pointer (some ⟨gr, 0, none⟩)] (by kernel_rfl) (fun w2 h2 W2 => rdy_any gr b4 _ W2) (fun e ow kp => pan (getS_none (by rw [hs4]; exact andP_none e)) (c1.kept kp n1) (c2.kept kp n2) rfl) (fun w2 o5 x5 b5 u e h2 l2 hu S5 kp mvf => ?_)
  have hs5 := hs4.trans (andP_some e)
  obtain ⟨A5, k5, d5, rfl, r5⟩ := hu
  replace c1 := c1.kept kp n1
  replace c2 := c2.kept kp n2
  replace F_p := l2.pv F_p
  replace hb := l2.rdk rfl hb
  replace r4 := l2.rdD r4
  clear h2 l2 kp mvf e S4 hs4
  refine ⟨[.bool x5.neg, .slice A5 k5 d5, .int .i64 x5.e], rfl, rfl, ?_⟩
  refine sat_chkB (by kernel_rfl) ?_
  refine Sx.sat_fstG (off := 0) [.int .i64 ((x1 : Nat) : Int), .int .i64 ((x2 : Nat) : Int), .int .i64 ((x3 : Nat) : Int), .bool x4.neg, .slice A4 k4 d4, .int .i64 x4.e, .bool x5.neg, .slice A5 k5 d5, .int .i64 x5.e, .slice none 0 0, .slice none 0 0] (.agg #[.int .i64 ((x1 : Nat) : Int), .int .i64 ((x2 : Nat) : Int), .int .i64 ((x3 : Nat) : Int), .bool x4.neg, .slice A4 k4 d4, .int .i64 x4.e, .bool x5.neg, .slice A5 k5 d5, .int .i64 x5.e, .slice none 0 0, .slice none 0 0]) c1 (by kernel_rfl) (by kernel_rfl) (by kernel_rfl) (by kernel_rfl) (Nat.le_of_ble_eq_true rfl) (fun u hu => by
    simp only [List.mem_cons, List.not_mem_nil, or_false] at hu
    rcases hu with rfl | rfl | rfl | rfl | rfl | rfl | rfl | rfl | rfl | rfl | rfl <;> first | exact (okS _ _ _).n _ | exact (okI _).n _ | exact (okB _).n _) fun p1 l2 kp c3 => ?_
  replace c1 : Sx.BB (gfr W [g1, g2, gr] df pn) p1 g1 [.int .i64 ((x1 : Nat) : Int), .int .i64 ((x2 : Nat) : Int), .int .i64 ((x3 : Nat) : Int), .bool x4.neg, .slice A4 k4 d4, .int .i64 x4.e, .bool x5.neg, .slice A5 k5 d5, .int .i64 x5.e, .slice none 0 0, .slice none 0 0] 28 := c3
  clear c3
  replace c2 := c2.kept kp n3.symm
  replace F_p := l2.pv F_p
  replace hb := l2.rdk rfl hb
  replace r4 := l2.rdD r4
  replace r5 := l2.rdD r5
  have S6a := S5.kept l2 kp n1.symm
  clear l2 kp S5
  refine Sx.sat_pv F_p (by kernel_rfl) (by kernel_rfl) ?_
  refine sat_prim (v := .func (.func 48) #[] #[.pointer (some ⟨p, 0, none⟩)]) (by kernel_rfl) ?_
  refine Sx.sat_rcallQ (p := prow 16 (prow 64 piv) b5) S6a #[.pointer (some ⟨gr, 0, none⟩), .int .i64 16, .func (.func 48) #[] #[.pointer (some ⟨p, 0, none⟩)]] (by kernel_rfl) (fun w2 h2 W2 => rrowLI_any gr b5 16 (by omega) _ W2 p ⟨(h2.pv F_p).box, fun e => (h2.pv F_p).nb.2.2 (e ▸ (S6a.le h2).bg), (h2.pv F_p).nb.1⟩) (fun e ow kp => pan (getS_none (by rw [hs5]; exact andP_none e)) (c1.kept kp n1) (c2.kept kp n2) rfl) (fun w2 o6 x6 b6 u e h2 l2 hu S6 kp mvf => ?_)
  have hs6 := hs5.trans (andP_some e)
  obtain ⟨A6, d6, rfl, R6⟩ := hu
  replace R6 := R6.mv mvf
  replace c1 := c1.kept kp n1
  replace c2 := c2.kept kp n2
  replace F_p := l2.pv F_p
  replace hb := l2.rdk rfl hb
  replace r4 := l2.rdD r4
  replace r5 := l2.rdD r5
  clear h2 l2 kp mvf e S6a hs5
  refine ⟨[.slice A6 x6.length d6], rfl, rfl, ?_⟩
  refine sat_prim (v := .pointer (some ⟨g1, 0 + 9, none⟩)) (by kernel_rfl) ?_
  refine Sx.sat_fstG (off := 0 + 9) [.slice A6 x6.length d6] (.slice A6 x6.length d6) c1 (by kernel_rfl) (by kernel_rfl) (by kernel_rfl) (by kernel_rfl) (Nat.le_of_ble_eq_true rfl) (fun u hu => by obtain rfl := List.mem_singleton.1 hu; exact (okS _ _ _).n _) fun p2 l2 kp c3 => ?_
  replace c1 : Sx.BB (gfr W [g1, g2, gr] df pn) p2 g1 [.int .i64 ((x1 : Nat) : Int), .int .i64 ((x2 : Nat) : Int), .int .i64 ((x3 : Nat) : Int), .bool x4.neg, .slice A4 k4 d4, .int .i64 x4.e, .bool x5.neg, .slice A5 k5 d5, .int .i64 x5.e, .slice A6 x6.length d6, .slice none 0 0] 28 := c3
  clear c3
  replace c2 := c2.kept kp n3.symm
  replace F_p := l2.pv F_p
  replace hb := l2.rdk rfl hb
  replace r4 := l2.rdD r4
  replace r5 := l2.rdD r5
  have S7a := S6.kept l2 kp n1.symm
  replace R6 := R6.mv l2.mvF
  clear l2 kp S6
  refine Sx.sat_pv F_p (by kernel_rfl) (by kernel_rfl) ?_
  refine sat_prim (v := .func (.func 52) #[] #[.pointer (some ⟨p, 0, none⟩)]) (by kernel_rfl) ?_
  refine Sx.sat_rcallQ (p := prow 16 (prow 64 ptb) b6) S7a #[.pointer (some ⟨gr, 0, none⟩), .int .i64 16, .func (.func 52) #[] #[.pointer (some ⟨p, 0, none⟩)]] (by kernel_rfl) (fun w2 h2 W2 => rrowLT_any gr b6 16 (by omega) _ W2 p ⟨(h2.pv F_p).box, fun e => (h2.pv F_p).nb.2.2 (e ▸ (S7a.le h2).bg), (h2.pv F_p).nb.1⟩) (fun e ow kp => pan (getS_none (by rw [hs6]; exact andP_none e)) (c1.kept kp n1) (c2.kept kp n2) rfl) (fun w2 o7 x7 b7 u e h2 l2 hu S7 kp mvf => ?_)
  have hs7 := hs6.trans (andP_some e)
  obtain ⟨A7, d7, rfl, R7⟩ := hu
  replace R7 := R7.mv mvf
  replace c1 := c1.kept kp n1
  replace c2 := c2.kept kp n2
  replace F_p := l2.pv F_p
  replace hb := l2.rdk rfl hb
  replace r4 := l2.rdD r4
  replace r5 := l2.rdD r5
  replace R6 := R6.mv l2.mvF
  clear h2 l2 kp mvf e S7a hs6
  refine ⟨[.slice A7 x7.length d7], rfl, rfl, ?_⟩
  refine sat_prim (v := .pointer (some ⟨g1, 0 + 10, none⟩)) (by kernel_rfl) ?_
  refine Sx.sat_fstG (off := 0 + 10) [.slice A7 x7.length d7] (.slice A7 x7.length d7) c1 (by kernel_rfl) (by kernel_rfl) (by kernel_rfl) (by kernel_rfl) (Nat.le_of_ble_eq_true rfl) (fun u hu => by obtain rfl := List.mem_singleton.1 hu; exact (okS _ _ _).n _) fun p3 l2 kp c3 => ?_
  replace c1 : Sx.BB (gfr W [g1, g2, gr] df pn) p3 g1 [.int .i64 ((x1 : Nat) : Int), .int .i64 ((x2 : Nat) : Int), .int .i64 ((x3 : Nat) : Int), .bool x4.neg, .slice A4 k4 d4, .int .i64 x4.e, .bool x5.neg, .slice A5 k5 d5, .int .i64 x5.e, .slice A6 x6.length d6, .slice A7 x7.length d7] 28 := c3
  clear c3
  replace c2 := c2.kept kp n3.symm
  replace F_p := l2.pv F_p
  replace hb := l2.rdk rfl hb
  replace r4 := l2.rdD r4
  replace r5 := l2.rdD r5
  have S8a := S7.kept l2 kp n1.symm
  replace R6 := R6.mv l2.mvF
  replace R7 := R7.mv l2.mvF
  clear l2 kp S7
  obtain ⟨r, hr⟩ : ∃ r : Rec, r = ⟨(x1 : Int), (x2 : Int), (x3 : Int), x4, x5, x6, x7⟩ := ⟨_, rfl⟩
  replace hs7 : prec b = some (r, b7) := by rw [hr]; exact hs7
  refine Sx.sat_bloadA c1 (by kernel_rfl) rfl (by kernel_rfl) (by kernel_rfl) ?_
  have hRc : ∀ {w' : World}, Sx.Mv p3.toWorld w' (fun q => W.heap.size ≤ q ∧ Sx.NB p3 q) (fun q => W.heap.size ≤ q) → RdD w' _ x4 → RdD w' _ x5 → RcAt (fun q => W.heap.size ≤ q) w' (.agg #[.int .i64 ((x1 : Nat) : Int), .int .i64 ((x2 : Nat) : Int), .int .i64 ((x3 : Nat) : Int), .bool x4.neg, .slice A4 k4 d4, .int .i64 x4.e, .bool x5.neg, .slice A5 k5 d5, .int .i64 x5.e, .slice A6 x6.length d6, .slice A7 x7.length d7]) r := fun {w'} m a4 a5 => by
    rw [hr]
    exact mkRc (r := ⟨(x1 : Int), (x2 : Int), (x3 : Int), x4, x5, x6, x7⟩) a4 a5 (R6.mv m) (R7.mv m)
  have mvw : ∀ {w' : Sx.OW}, Sx.Lf (gfr W [g1, g2, gr] df pn) p3 w' → Sx.Mv p3.toWorld w'.toWorld (fun q => W.heap.size ≤ q ∧ Sx.NB p3 q) (fun q => W.heap.size ≤ q) := fun l => ⟨(l.mvF (b := W.heap.size)).rd, (l.mvF (b := W.heap.size)).sz, fun q hq ho => ⟨((l.mvF (b := W.heap.size)).keep q hq ho).1, ho.1⟩⟩
  refine sat_call #[.agg #[.int .i64 ((x1 : Nat) : Int), .int .i64 ((x2 : Nat) : Int), .int .i64 ((x3 : Nat) : Int), .bool x4.neg, .slice A4 k4 d4, .int .i64 x4.e, .bool x5.neg, .slice A5 k5 d5, .int .i64 x5.e, .slice A6 x6.length d6, .slice A7 x7.length d7]] (by kernel_rfl) fun w1 h1 => ?_
  have hA := hRc (mvw h1.toLf) (h1.rdD r4) (h1.rdD r5)
  obtain ⟨_, _, _, _, _, _, _, _, _, _, hA⟩ := hA
  have hA2 : RcAt (fun _ => True) w1.toWorld (.agg #[.int .i64 ((x1 : Nat) : Int), .int .i64 ((x2 : Nat) : Int), .int .i64 ((x3 : Nat) : Int), .bool x4.neg, .slice A4 k4 d4, .int .i64 x4.e, .bool x5.neg, .slice A5 k5 d5, .int .i64 x5.e, .slice A6 x6.length d6, .slice A7 x7.length d7]) r := ⟨_, _, _, _, _, _, _, _, _, _, hA.1, hA.2.1, hA.2.2.1, hA.2.2.2.1.mv (Sx.Mv.weak fun _ _ _ => trivial), hA.2.2.2.2.mv (Sx.Mv.weak fun _ _ _ => trivial)⟩
  refine (putR_any _ r _ hA2).mono ?_
  rintro e v1 ⟨⟨A8, c8, rfl, R8⟩, hb8⟩
  refine ⟨hb8, [.slice A8 (putB r).length c8, .int .i64 (putE r)], _, rfl, by kernel_rfl, by kernel_rfl, fun g8 => ?_⟩
  have hR8 := R8.rdn
  have c1' := c1.le g8
  have c2' := c2.le g8
  have hb' := g8.rdk rfl hb
  refine sat_prim (v := .bool (putE r != 0)) (by kernel_rfl) ?_
  cases hm : mayR r
  · refine sat_trueP (b := putE r != 0) (by kernel_rfl) (by rw [putE_no hm]; rfl) ?_
    refine sat_prim (v := .iface 77 (.agg #[])) (by kernel_rfl) ?_
    exact Sx.sat_pan (ty := 77) (v := .agg #[]) (by kernel_rfl) fun w9 h9 => pan (by unfold getS; rw [hs7]; simp only [hm]; rfl) (c1'.le h9) (c2'.le h9) rfl
  refine sat_falseP (b := putE r != 0) (by kernel_rfl) (by rw [putE_yes hm]; rfl) ?_
  rw [putB_yes hm] at hR8 ⊢
  refine sat_call #[.slice A8 (recB r).length c8, .slice A b.length c] (by kernel_rfl) fun w2 h2 => ?_
  refine (equalB_any _ _ _ (recB r) _ _ _ b _ (h2.rdk rfl hR8) (h2.rdk rfl hb')).mono ?_
  rintro e v2 ⟨rfl, hb9⟩
  refine ⟨hb9, [.bool (decide (recB r = b))], _, rfl, by kernel_rfl, by kernel_rfl, fun g9 => ?_⟩
  have c1'' := c1'.le g9
  have c2'' := c2'.le g9
  refine sat_prim (v := .bool (!(decide (recB r = b)))) (by kernel_rfl) ?_
  cases he : decide (recB r = b)
  · refine sat_true (by kernel_rfl) ?_
    refine sat_prim (v := .iface 77 (.agg #[])) (by kernel_rfl) ?_
    exact Sx.sat_pan (ty := 77) (v := .agg #[]) (by kernel_rfl) fun w9 h9 => pan (by unfold getS; rw [hs7]; simp only [hm, he]; rfl) (c1''.le h9) (c2''.le h9) rfl
  refine sat_false (by kernel_rfl) ?_
  refine Sx.sat_bloadA c1'' (by kernel_rfl) rfl (by kernel_rfl) (by kernel_rfl) ?_
  refine Sx.sat_fstG (off := 0) [.int .i64 ((x1 : Nat) : Int), .int .i64 ((x2 : Nat) : Int), .int .i64 ((x3 : Nat) : Int), .bool x4.neg, .slice A4 k4 d4, .int .i64 x4.e, .bool x5.neg, .slice A5 k5 d5, .int .i64 x5.e, .slice A6 x6.length d6, .slice A7 x7.length d7] (.agg #[.int .i64 ((x1 : Nat) : Int), .int .i64 ((x2 : Nat) : Int), .int .i64 ((x3 : Nat) : Int), .bool x4.neg, .slice A4 k4 d4, .int .i64 x4.e, .bool x5.neg, .slice A5 k5 d5, .int .i64 x5.e, .slice A6 x6.length d6, .slice A7 x7.length d7]) c1'' (by kernel_rfl) (by kernel_rfl) (by kernel_rfl) (by kernel_rfl) (Nat.le_of_ble_eq_true rfl) (fun u hu => by
    simp only [List.mem_cons, List.not_mem_nil, or_false] at hu
    rcases hu with rfl | rfl | rfl | rfl | rfl | rfl | rfl | rfl | rfl | rfl | rfl <;> first | exact (okS _ _ _).n _ | exact (okI _).n _ | exact (okB _).n _) fun q1 k1 kp1 d1 => ?_
  refine Sx.sat_fstG (off := 0) [.int .i64 0] (.int .i64 0) (c2''.kept kp1 n3.symm) (by kernel_rfl) (by kernel_rfl) (by kernel_rfl) (by kernel_rfl) (Nat.le_of_ble_eq_true rfl) (fun u hu => by obtain rfl := List.mem_singleton.1 hu; exact (okI _).n _) fun q2 k2 kp2 d2 => ?_
  replace d1 : Sx.BB (gfr W [g1, g2, gr] df pn) q2 g1 [.int .i64 ((x1 : Nat) : Int), .int .i64 ((x2 : Nat) : Int), .int .i64 ((x3 : Nat) : Int), .bool x4.neg, .slice A4 k4 d4, .int .i64 x4.e, .bool x5.neg, .slice A5 k5 d5, .int .i64 x5.e, .slice A6 x6.length d6, .slice A7 x7.length d7] 28 := d1.kept kp2 n3
  replace d2 : Sx.BB (gfr W [g1, g2, gr] df pn) q2 g2 [.int .i64 0] 3 := d2
  have lall := g8.toLf.trans (g9.toLf.trans (k1.trans k2))
  exact sat_ret (.tuple #[]) (by kernel_rfl) fun w9 h9 => ⟨r, by unfold getS; rw [hs7]; simp only [hm, he]; rfl, [.int .i64 ((x1 : Nat) : Int), .int .i64 ((x2 : Nat) : Int), .int .i64 ((x3 : Nat) : Int), .bool x4.neg, .slice A4 k4 d4, .int .i64 x4.e, .bool x5.neg, .slice A5 k5 d5, .int .i64 x5.e, .slice A6 x6.length d6, .slice A7 x7.length d7], rfl, (d1.le h9).box, (d2.le h9).box, hRc (mvw (lall.trans h9.toLf)) ((lall.trans h9.toLf).rdD r4) ((lall.trans h9.toLf).rdD r5)⟩
def getW (w : World) (A : Option Addr) (c n : Nat) : World := (((w.alloc (.cells zRec.toArray 28)).alloc (.cells #[.int .i64 0] 3)).alloc (.cells #[.slice A n c] 80)).alloc (.cells #[.pointer (some ⟨w.heap.size + 1 + 1, 0, none⟩)] 79)
theorem getW_ok (w : World) (A : Option Addr) (c n : Nat) : Box (getW w A c n) w.heap.size zRec 28 ∧ Box (getW w A c n) (w.heap.size + 1) [.int .i64 0] 3 ∧ Box (getW w A c n) (w.heap.size + 1 + 1) [.slice A n c] 80 ∧ Box (getW w A c n) (w.heap.size + 1 + 1 + 1) [.pointer (some ⟨w.heap.size + 1 + 1, 0, none⟩)] 79 ∧ Below w.heap.size w (getW w A c n) := by
  unfold getW
  have s1 : (w.alloc (.cells zRec.toArray 28)).heap.size = w.heap.size + 1 := by simp
  have B1 := Box.new w zRec 28
  have b1 : Below w.heap.size w (w.alloc (.cells zRec.toArray 28)) := by go_grown
  generalize w.alloc (.cells zRec.toArray 28) = w1 at *
  have s2 : (w1.alloc (.cells #[.int .i64 0] 3)).heap.size = w1.heap.size + 1 := by simp
  have B2 : Box (w1.alloc (.cells #[.int .i64 0] 3)) w1.heap.size [.int .i64 0] 3 := Box.new w1 [.int .i64 0] 3
  have b2 : Below w1.heap.size w1 (w1.alloc (.cells #[.int .i64 0] 3)) := by go_grown
  generalize w1.alloc (.cells #[.int .i64 0] 3) = w2 at *
  have s3 : (w2.alloc (.cells #[.slice A n c] 80)).heap.size = w2.heap.size + 1 := by simp
  have B3 : Box (w2.alloc (.cells #[.slice A n c] 80)) w2.heap.size [.slice A n c] 80 := Box.new w2 [.slice A n c] 80
  have b3 : Below w2.heap.size w2 (w2.alloc (.cells #[.slice A n c] 80)) := by go_grown
  generalize w2.alloc (.cells #[.slice A n c] 80) = w3 at *
  have B4 : Box (w3.alloc (.cells #[.pointer (some ⟨w.heap.size + 1 + 1, 0, none⟩)] 79)) w3.heap.size [.pointer (some ⟨w.heap.size + 1 + 1, 0, none⟩)] 79 := Box.new w3 [.pointer (some ⟨w.heap.size + 1 + 1, 0, none⟩)] 79
  have b4 : Below w3.heap.size w3 (w3.alloc (.cells #[.pointer (some ⟨w.heap.size + 1 + 1, 0, none⟩)] 79)) := by go_grown
  rw [s3, s2, s1] at B4
  rw [s2, s1] at B3
  rw [s1] at B2
  refine ⟨((B1.keep b2).keep b3).keep b4, (B2.keep b3).keep b4, B3.keep b4, B4, ((b1.trans (b2.mono (by omega))).trans (b3.mono (by omega))).trans (b4.mono (by omega))⟩
theorem leaves_congr {P : Program} {fn : Func} {t1 t2 : Array Value} {R : Ending → World → Prop} (h : results fn t1 = results fn t2) : ∀ (ds : List Deferred) (u : FrameMode) (w : World), Leaves P fn t1 R ds u w = Leaves P fn t2 R ds u w
  | [], u, w => by cases u <;> simp [Leaves, h]
  | d :: ds, u, w => by simp only [Leaves, leaves_congr h ds]
theorem get_results {tm : Array Value} {w : World} {g1 g2 : Nat} {vs : List Value} {y : Value} (t2 : tm[2]? = some (.pointer (some ⟨g1, 0, none⟩))) (t3 : tm[3]? = some (.pointer (some ⟨g2, 0, none⟩))) (b1 : Box w g1 vs 28) (b2 : Box w g2 [y] 3) (hl : vs.length = 11) :
    (results Try.f12 tm).run Try.prog w = .ok (.tuple #[.agg vs.toArray, y]) w := by
  match vs, hl with
  | [a0, a1, a2, a3, a4, a5, a6, a7, a8, a9, a10], _ =>
    have p0 : w.cell? ⟨g1, 0, none⟩ = some a0 := by rw [b1.get]; rfl
    have p1 : w.cell? ⟨g1, 1, none⟩ = some a1 := by rw [b1.get]; rfl
    have p2 : w.cell? ⟨g1, 2, none⟩ = some a2 := by rw [b1.get]; rfl
    have p3 : w.cell? ⟨g1, 3, none⟩ = some a3 := by rw [b1.get]; rfl
    have p4 : w.cell? ⟨g1, 4, none⟩ = some a4 := by rw [b1.get]; rfl
    have p5 : w.cell? ⟨g1, 5, none⟩ = some a5 := by rw [b1.get]; rfl
    have p6 : w.cell? ⟨g1, 6, none⟩ = some a6 := by rw [b1.get]; rfl
    have p7 : w.cell? ⟨g1, 7, none⟩ = some a7 := by rw [b1.get]; rfl
    have p8 : w.cell? ⟨g1, 8, none⟩ = some a8 := by rw [b1.get]; rfl
    have p9 : w.cell? ⟨g1, 9, none⟩ = some a9 := by rw [b1.get]; rfl
    have p10 : w.cell? ⟨g1, 10, none⟩ = some a10 := by rw [b1.get]; rfl
    have q0 : w.cell? ⟨g2, 0, none⟩ = some y := by rw [b2.get]; rfl
    simp [results, Try.results12, go_sem, t2, t3, p0, p1, p2, p3, p4, p5, p6, p7, p8, p9, p10, q0]
theorem get_results_put {a : Act} {d : Option Nat} {v : Value} (h2 : d ≠ some 2) (h3 : d ≠ some 3) : results Try.f12 (a.put d v).tmps = results Try.f12 a.tmps := by
  cases d with
  | none => rfl
  | some d =>
    have e2 : (a.put (some d) v).tmps[2]? = a.tmps[2]? := by
      simp only [Act.put]
      rw [Array.getElem?_setIfInBounds_ne (fun e => h2 (by rw [e]))]
    have e3 : (a.put (some d) v).tmps[3]? = a.tmps[3]? := by
      simp only [Act.put]
      rw [Array.getElem?_setIfInBounds_ne (fun e => h3 (by rw [e]))]
    simp only [results, Try.results12]
    simp [e2, e3]
set_option maxRecDepth 100000 in
set_option maxHeartbeats 1000000 in
theorem getR_any (A : Option Addr) (c : Nat) (b : List Nat) (w : World) (hb : RdN .u8 w A b.length c b) (hl : ∀ x ∈ b, x < 256) :
    Calls Try.prog 12 #[.slice A b.length c] w fun e w' => GetTup w w' e b ∧ Below w.heap.size w w' := by
  have hmf : ∀ (fn : Fn) (first cap : Array Value) (w : World), (Instr.makeFunc fn first cap).run Try.prog w = .ok (.func fn first cap) w := fun _ _ _ _ => rfl
  obtain ⟨B1, B2, B3, B4, hbW⟩ := getW_ok w A c b.length
  refine calls_of_wp_defers Try.func12 gBody_eq ?_
  rw [show Try.f12.ntmps = 46 by kernel_rfl]
  refine wp_seq ?_
  conv => arg 2; whnf
  go_wp2
  conv => arg 2; whnf
  go_wp2
  conv => arg 2; whnf
  go_wp2
  change Code.wp _ _ _ _ (getW w A c b.length)
  simp [Array.replicate]
  have hb4 := hb.below hbW
  have hsz := hbW.size
  generalize getW w A c b.length = W at *
  have l1 := B1.lt
  have l2 := B2.lt
  have l3 := B3.lt
  have l4 := B4.lt
  rw [gTail_seq]
  refine Sx.wp_seq_sx (w0 := gfr W [w.heap.size, w.heap.size + 1, w.heap.size + 1 + 1] [{ target := .fn (.func 44) #[.pointer (some ⟨w.heap.size, 0, none⟩), .pointer (some ⟨w.heap.size + 1, 0, none⟩)], args := #[] }] [(2, .pointer (some ⟨w.heap.size, 0, none⟩)), (3, .pointer (some ⟨w.heap.size + 1, 0, none⟩))]) (fn := (default : Func)) (es1 := []) (es2 := [999999]) (ρ := [.slice A b.length c, .pointer (some ⟨w.heap.size, 0, none⟩), .pointer (some ⟨w.heap.size + 1, 0, none⟩), .pointer (some ⟨w.heap.size + 1 + 1 + 1, 0, none⟩)]) (R := fun _ => GetR W b w.heap.size (w.heap.size + 1)) (Pn := GetP b w.heap.size (w.heap.size + 1)) Sx.mixed (fun g hg => ?_) tr_gett_eq rfl rfl rfl (by rfl) ?_ ?_ (gett_sat W w.heap.size (w.heap.size + 1) (w.heap.size + 1 + 1) (w.heap.size + 1 + 1 + 1) A c b _ _ (by omega) (by omega) (by omega) B1 B2 ⟨A, c, B3, hb4, hl⟩ ⟨B4, by omega, by omega, by omega⟩ hb4) ?_ ?_ ?_
  · have hg : g ∈ [w.heap.size, w.heap.size + 1, w.heap.size + 1 + 1] := hg
    simp only [List.mem_cons, List.not_mem_nil, or_false] at hg
    rcases hg with rfl | rfl | rfl <;> assumption
  · intro t T hT l m
    match t, hT with
    | 0, h => have h : some (Sx.Tm.one (.lf 0)) = some T := h; injection h with h; subst h; rfl
    | 1, h => have h : none = some T := h; cases h
    | 2, h => have h : some (Sx.Tm.one (.lf 1)) = some T := h; injection h with h; subst h; rfl
    | 3, h => have h : some (Sx.Tm.one (.lf 2)) = some T := h; injection h with h; subst h; rfl
    | 4, h => have h : some (Sx.Tm.one (.lf 3)) = some T := h; injection h with h; subst h; rfl
    | t + 5, h => simp [Sx.St.get, Sx.lookN] at h
  · refine ⟨rfl, fun q hq => ?_⟩
    have hq : q ∈ [(2, Value.pointer (some ⟨w.heap.size, 0, none⟩)), (3, Value.pointer (some ⟨w.heap.size + 1, 0, none⟩))] := hq
    simp only [List.mem_cons, List.not_mem_nil, or_false] at hq
    rcases hq with rfl | rfl
    · exact ⟨by simp, rfl⟩
    · exact ⟨by simp, rfl⟩
  · rintro c' a' w' hd ⟨rfl, hg, ⟨vs, hl', hv, b1⟩, x, hx, b2⟩ hB
    have t2 := hd.2 _ (List.mem_cons_self ..)
    have t3 := hd.2 _ (List.mem_cons_of_mem _ (List.mem_cons_self ..))
    show Leaves Try.prog Try.f12 a'.tmps _ a'.defers (.panicking [Sx.wrongE]) w'
    rw [show a'.defers = _ from hd.1]
    refine leaves_cons (f := 44) (args := #[.pointer (some ⟨w.heap.size, 0, none⟩), .pointer (some ⟨w.heap.size + 1, 0, none⟩)]) (by simp) (by simp [go_sem]) ?_
    refine (get1_caught _ _ vs x w' b1 b2 hl' hv hx (by omega)).mono ?_
    rintro e u' w3 ⟨rfl, rfl, hb3, q1, q2⟩
    refine ⟨.tuple #[.agg zRec.toArray, .int .i64 9], get_results t2 t3 q1 q2 rfl, ⟨.agg zRec.toArray, by rw [hg], by rw [hg]; exact mkRc (r := zeroR) (RdD.zero w3) (RdD.zero w3) (Sx.Rows.nil _ _ _) (Sx.Rows.nil _ _ _)⟩, ?_⟩
    have f1 : Sx.BelowF (w : Sx.Fr) W := Sx.BelowF.of hbW
    exact ((f1.trans (w1 := gfr W _ _ _) hB (fun g hg => by
      have hg : g ∈ [w.heap.size, w.heap.size + 1, w.heap.size + 1 + 1] := hg
      simp only [List.mem_cons, List.not_mem_nil, or_false] at hg
      exact .inr (by show w.heap.size ≤ g; omega))).trans (w1 := gfr w' _ _ _) hb3 (fun g hg => by
      have hg : g ∈ [w.heap.size, w.heap.size + 1] := hg
      simp only [List.mem_cons, List.not_mem_nil, or_false] at hg
      exact .inr (by show w.heap.size ≤ g; omega))).below
  · intro c' d v a' w' hne h
    have h2 : d ≠ some 2 := fun e => hne 2 e _ (List.mem_cons_self ..) rfl
    have h3 : d ≠ some 3 := fun e => hne 3 e _ (List.mem_cons_of_mem _ (List.mem_cons_self ..)) rfl
    have h : Leaves Try.prog Try.f12 (a'.put d v).tmps _ (a'.put d v).defers (.panicking c') w' := h
    rw [Sx.put_defers, leaves_congr (get_results_put h2 h3)] at h
    exact h
  · rintro a' w' v hd ⟨x, hg, vs, hl', b1, b2, hA⟩ hB
    have key : Leaves Try.prog Try.f12 a'.tmps (fun e w' => GetTup w w' e b ∧ Below w.heap.size w w') a'.defers .returning w' := by
      have t2 := hd.2 _ (List.mem_cons_self ..)
      have t3 := hd.2 _ (List.mem_cons_of_mem _ (List.mem_cons_self ..))
      rw [show a'.defers = _ from hd.1]
      refine leaves_cons (f := 44) (args := #[.pointer (some ⟨w.heap.size, 0, none⟩), .pointer (some ⟨w.heap.size + 1, 0, none⟩)]) (by simp) (by simp [go_sem]) ?_
      refine (get1_idle _ _ w').mono ?_
      rintro e u' w3 ⟨rfl, rfl, hb3⟩
      have f1 : Sx.BelowF (w : Sx.Fr) W := Sx.BelowF.of hbW
      have f2 := (f1.trans (w1 := gfr W _ _ _) hB (fun g hg => by
        have hg : g ∈ [w.heap.size, w.heap.size + 1, w.heap.size + 1 + 1] := hg
        simp only [List.mem_cons, List.not_mem_nil, or_false] at hg
        exact .inr (by show w.heap.size ≤ g; omega))).below
      obtain ⟨A1, k1, d1, A2, k2, d2, X1, y1, X2, y2, hv, r1, r2, R3, R4⟩ := hA
      have m : Sx.Mv w' w3 (fun q => W.heap.size ≤ q) (fun q => w.heap.size ≤ q) := ⟨(Sx.Mv.below hb3 (fun _ => True)).rd, hb3.size, fun g hg ho => ⟨hb3.block g hg, Nat.le_trans hsz ho⟩⟩
      refine ⟨.tuple #[.agg vs.toArray, .int .i64 0], get_results t2 t3 (b1.keep hb3) (b2.keep hb3) hl', ⟨.agg vs.toArray, by rw [hg], ?_⟩, f2.trans (hb3.mono f2.size)⟩
      rw [hg, hv]
      exact mkRc (r := x) (r1.below hb3) (r2.below hb3) (R3.mv m) (R4.mv m)
    exact ⟨key, key⟩
end Go.Proofs.Ytpkfjfpknbhekaa
namespace Go.Proofs.Ytpkfjfpknbhekaa
open Go.RowKit Pl
open Sx (sat_call sat_chk sat_prim sat_ite sat_true sat_false sat_trueP sat_falseP sat_ret sat_rowN rows_one all_nil all_cons okB okS okI)
def T1 : Dy := ⟨false, [1], -1⟩
def rec1 : Rec := ⟨3, 300, 100, T1, Dy.zero, [], []⟩
theorem rdw1 {W : World} {b x : Nat} (hb : b < W.heap.size) (hc : W.cell? ⟨b, 0, none⟩ = some (.int .u64 (x : Int))) : RdN .u64 W (some ⟨b, 0, none⟩) 1 1 [x] :=
  ⟨rfl, Nat.le_refl _, by decide, fun _ => ⟨b, 0, rfl, hb, fun k hk => by
    obtain rfl : k = 0 := by omega
    exact hc⟩⟩
theorem row_T1 {w : World} {b : Nat} {t : TypeId} (h : Box w b [.int .u64 1] t) : RdD w (.agg #[.bool T1.neg, .slice (some ⟨b, 0, none⟩) 1 1, .int .i64 T1.e]) T1 :=
  ⟨_, _, _, rfl, rdw1 (x := 1) h.lt (h.cell 0 rfl), Lim.cons BB_gt1 Lim.nil, by decide, by decide⟩
theorem told_may : mayR rec1 = true := by kernel_rfl
theorem told_zero : mayR zeroR = false := by kernel_rfl
theorem told_get : getS (recB rec1) = (rec1, 0) := by kernel_rfl
theorem told_nil : getS [] = (zeroR, 9) := by kernel_rfl
theorem told_lim : ∀ x ∈ recB rec1, x < 256 := by
  have h : ((recB rec1).all fun x => decide (x < 256)) = true := by kernel_rfl
  exact fun x hx => of_decide_eq_true (List.all_eq_true.1 h x hx)
theorem told_same : sameRc rec1 rec1 = true := by kernel_rfl
theorem told_f1 : frontR [] [rec1] = true := by kernel_rfl
theorem told_f2 : frontR [rec1] [] = false := by kernel_rfl
def tr_told21 : Sx.Tree := .row 51 [.num .u64 1] 1 [] (.chk [.lf 0] (.chk [.lf 0] (.chk [.lf 0] (.call 9 [.ag [.num .i64 3, .num .i64 300, .num .i64 100, .bit false, .lf 0, .num .i64 ((-1)), .bit false, .nil, .num .i64 0, .nil, .nil]] (.tup [(false, 1), (false, 1)]) (.call 12 [.one (.lf 1)] (.tup [(true, 11), (false, 1)]) (.chk [.lf 3, .lf 4, .lf 5, .lf 6, .lf 7, .lf 8, .lf 9, .lf 10, .lf 11, .lf 12, .lf 13] (.call 12 [.one .nil] (.tup [(true, 11), (false, 1)]) (.chk [.lf 15, .lf 16, .lf 17, .lf 18, .lf 19, .lf 20, .lf 21, .lf 22, .lf 23, .lf 24, .lf 25] (.call 9 [.ag [.num .i64 0, .num .i64 0, .num .i64 0, .bit false, .nil, .num .i64 0, .bit false, .nil, .num .i64 0, .nil, .nil]] (.tup [(false, 1), (false, 1)]) (.prim (.bin .eql) [.lf 2, .num .i64 0] (.ite (.lf 29) (.prim .len [.lf 1] (.prim (.bin .eql) [.lf 30, .num .i64 20] (.ite (.lf 31) (.prim (.bin .eql) [.lf 14, .num .i64 0] (.ite (.lf 32) (.call 15 [.ag [.lf 3, .lf 4, .lf 5, .lf 6, .lf 7, .lf 8, .lf 9, .lf 10, .lf 11, .lf 12, .lf 13], .ag [.num .i64 3, .num .i64 300, .num .i64 100, .bit false, .lf 0, .num .i64 ((-1)), .bit false, .nil, .num .i64 0, .nil, .nil]] .one (.ite (.lf 33) (.prim (.bin .eql) [.lf 26, .num .i64 9] (.ite (.lf 34) (.prim (.bin .eql) [.lf 28, .num .i64 1] (.ite (.lf 35) (.call 10 [.ag [.num .i64 3, .num .i64 300, .num .i64 100, .bit false, .lf 0, .num .i64 ((-1)), .bit false, .nil, .num .i64 0, .nil, .nil]] .one (.ite (.lf 36) (.row 28 [.num .i64 3, .num .i64 300, .num .i64 100, .bit false, .lf 0, .num .i64 ((-1)), .bit false, .nil, .num .i64 0, .nil, .nil] 1 [] (.call 16 [.one .nil, .one (.lf 37)] .one (.ite (.lf 38) (.row 28 [.num .i64 3, .num .i64 300, .num .i64 100, .bit false, .lf 0, .num .i64 ((-1)), .bit false, .nil, .num .i64 0, .nil, .nil] 1 [] (.call 16 [.one (.lf 39), .one .nil] .one (.prim .not [.lf 40] (.ret (.one (.lf 41)))))) (.ret (.one (.bit false)))))) (.ret (.one (.bit false))))) (.ret (.one (.bit false))))) (.ret (.one (.bit false))))) (.ret (.one (.bit false))))) (.ret (.one (.bit false))))) (.ret (.one (.bit false)))))) (.ret (.one (.bit false))))))))))))))
theorem tr_told21_eq : Sx.treeOf Try.prog 7 = some tr_told21 := by kernel_rfl
theorem told21_any (w : World) : Calls Try.prog 7 #[] w fun e w' => e = .returned (.bool true) ∧ Below w.heap.size w w' := by
  refine (Sx.run (ls := []) (shs := []) (R := fun v _ => v = .bool true) (by kernel_rfl) tr_told21_eq rfl (by decide) ?_).mono (fun e w' ⟨v, he, hv, hb⟩ => ⟨by rw [he, hv], hb⟩)
  unfold tr_told21
  refine sat_rowN [.int .u64 1] (by kernel_rfl) (by intro x hx; cases hx) fun u1 h1 B1 NB1 => ?_
  have r_T := row_T1 B1
  generalize u1.heap.size = N at *
  generalize (u1.alloc _) = w_1 at *
  clear h1 B1 NB1
  refine sat_chkB (by kernel_rfl) ?_
  refine sat_chkB (by kernel_rfl) ?_
  refine sat_chkB (by kernel_rfl) ?_
  refine sat_call #[.agg #[.int .i64 3, .int .i64 300, .int .i64 100, .bool false, .slice (some ⟨N, 0, none⟩) 1 1, .int .i64 (-1), .bool false, .slice none 0 0, .int .i64 0, .slice none 0 0, .slice none 0 0]] (by kernel_rfl) fun w1 h1 => ?_
  refine (putR_any _ rec1 _ (mkRc (r := rec1) (h1.rdD r_T) (RdD.zero _) (Sx.Rows.nil _ _ _) (Sx.Rows.nil _ _ _))).mono ?_
  rintro e v1 ⟨⟨A, c, rfl, R⟩, hb1⟩
  refine ⟨hb1, [.slice A (putB rec1).length c, .int .i64 (putE rec1)], _, rfl, by kernel_rfl, by kernel_rfl, fun g1 => ?_⟩
  replace r_T := g1.rdD r_T
  rw [putB_yes told_may, putE_yes told_may]
  rw [putB_yes told_may] at R
  have hR := R.rdn
  clear h1 hb1 R
  refine sat_call #[.slice A (recB rec1).length c] (by kernel_rfl) fun w2 h2 => ?_
  refine (getR_any A c (recB rec1) _ (h2.rdk rfl hR) told_lim).mono ?_
  rintro e v2 ⟨⟨_, rfl, hA⟩, hb2⟩
  rw [told_get] at hA
  obtain ⟨A1, n1, d1, A2, n2, d2, X1, x1, Y1, y1, rfl, r1, r2, R3, R4⟩ := hA
  rw [told_get]
  refine ⟨hb2, [.int .i64 3, .int .i64 300, .int .i64 100, .bool false, .slice A1 n1 d1, .int .i64 (-1), .bool false, .slice A2 n2 d2, .int .i64 0, .slice X1 0 x1, .slice Y1 0 y1, .int .i64 0], _, rfl, by kernel_rfl, by kernel_rfl, fun g2 => ?_⟩
  replace r_T := g2.rdD r_T
  replace R3 := R3.mv (Sx.Mv.fresh h2.wf)
  replace R4 := R4.mv (Sx.Mv.fresh h2.wf)
  clear h2 hb2 hR
  refine sat_chkB (by kernel_rfl) ?_
  refine sat_call #[.slice none 0 0] (by kernel_rfl) fun w3 h3 => ?_
  refine (getR_any none 0 [] _ (RdN.nil _ _) (fun x hx => by cases hx)).mono ?_
  rintro e v3 ⟨⟨_, rfl, hA⟩, hb3⟩
  rw [told_nil] at hA
  obtain ⟨A5, n5, d5, A6, n6, d6, X5, x5, Y5, y5, rfl, -, -, -, -⟩ := hA
  rw [told_nil]
  refine ⟨hb3, [.int .i64 0, .int .i64 0, .int .i64 0, .bool false, .slice A5 n5 d5, .int .i64 0, .bool false, .slice A6 n6 d6, .int .i64 0, .slice X5 0 x5, .slice Y5 0 y5, .int .i64 9], _, rfl, by kernel_rfl, by kernel_rfl, fun g3 => ?_⟩
  replace r_T := g3.rdD r_T
  replace r1 := g3.rdD r1
  replace r2 := g3.rdD r2
  replace R3 := R3.mv g3.mv
  replace R4 := R4.mv g3.mv
  clear h3 hb3
  refine sat_chkB (by kernel_rfl) ?_
  refine sat_call #[.agg #[.int .i64 0, .int .i64 0, .int .i64 0, .bool false, .slice none 0 0, .int .i64 0, .bool false, .slice none 0 0, .int .i64 0, .slice none 0 0, .slice none 0 0]] (by kernel_rfl) fun w4 h4 => ?_
  refine (putR_any _ zeroR _ (mkRc (r := zeroR) (RdD.zero _) (RdD.zero _) (Sx.Rows.nil _ _ _) (Sx.Rows.nil _ _ _))).mono ?_
  rintro e v4 ⟨⟨A7, c7, rfl, -⟩, hb4⟩
  refine ⟨hb4, [.slice A7 (putB zeroR).length c7, .int .i64 (putE zeroR)], _, rfl, by kernel_rfl, by kernel_rfl, fun g4 => ?_⟩
  replace r_T := g4.rdD r_T
  replace r1 := g4.rdD r1
  replace r2 := g4.rdD r2
  replace R3 := R3.mv g4.mv
  replace R4 := R4.mv g4.mv
  rw [putE_no told_zero]
  clear h4 hb4
  refine sat_prim (v := .bool true) (by kernel_rfl) ?_
  refine sat_true (by kernel_rfl) ?_
  refine sat_prim (v := .int .i64 20) (by kernel_rfl) ?_
  refine sat_prim (v := .bool true) (by kernel_rfl) ?_
  refine sat_true (by kernel_rfl) ?_
  refine sat_prim (v := .bool true) (by kernel_rfl) ?_
  refine sat_true (by kernel_rfl) ?_
  refine sat_call #[.agg #[.int .i64 3, .int .i64 300, .int .i64 100, .bool false, .slice A1 n1 d1, .int .i64 (-1), .bool false, .slice A2 n2 d2, .int .i64 0, .slice X1 0 x1, .slice Y1 0 y1], .agg #[.int .i64 3, .int .i64 300, .int .i64 100, .bool false, .slice (some ⟨N, 0, none⟩) 1 1, .int .i64 (-1), .bool false, .slice none 0 0, .int .i64 0, .slice none 0 0, .slice none 0 0]] (by kernel_rfl) fun w1 h1 => ?_
  refine (sameR_any _ _ rec1 rec1 _ (mkRc (r := rec1) (h1.rdD r1) (h1.rdD r2) (R3.mv h1.mv).any (R4.mv h1.mv).any) (mkRc (r := rec1) (h1.rdD r_T) (RdD.zero _) (Sx.Rows.nil _ _ _) (Sx.Rows.nil _ _ _))).mono ?_
  rw [told_same]
  rintro e v5 ⟨rfl, hb5⟩
  refine ⟨hb5, [.bool true], _, rfl, by kernel_rfl, by kernel_rfl, fun g5 => ?_⟩
  replace r_T := g5.rdD r_T
  clear h1 hb5 r1 r2 R3 R4
  refine sat_true (by kernel_rfl) ?_
  refine sat_prim (v := .bool true) (by kernel_rfl) ?_
  refine sat_true (by kernel_rfl) ?_
  refine sat_prim (v := .bool true) (by kernel_rfl) ?_
  refine sat_true (by kernel_rfl) ?_
  refine sat_call #[.agg #[.int .i64 3, .int .i64 300, .int .i64 100, .bool false, .slice (some ⟨N, 0, none⟩) 1 1, .int .i64 (-1), .bool false, .slice none 0 0, .int .i64 0, .slice none 0 0, .slice none 0 0]] (by kernel_rfl) fun w1 h1 => ?_
  refine (mayRc_any _ rec1 _ (mkRc (r := rec1) (h1.rdD r_T) (RdD.zero _) (Sx.Rows.nil _ _ _) (Sx.Rows.nil _ _ _))).mono ?_
  rw [told_may]
  rintro e v6 ⟨rfl, hb6⟩
  refine ⟨hb6, [.bool true], _, rfl, by kernel_rfl, by kernel_rfl, fun g6 => ?_⟩
  replace r_T := g6.rdD r_T
  clear h1 hb6
  refine sat_true (by kernel_rfl) ?_
  refine sat_rowN [.int .i64 3, .int .i64 300, .int .i64 100, .bool false, .slice (some ⟨N, 0, none⟩) 1 1, .int .i64 (-1), .bool false, .slice none 0 0, .int .i64 0, .slice none 0 0, .slice none 0 0] (by kernel_rfl) (by intro x hx; cases hx) fun u1 h1 B1 NB1 => ?_
  replace r_T := h1.rdD r_T
  have F_R : Sx.Rows Sx.kRec (Sx.NB _) _ (some ⟨u1.heap.size, 0, none⟩) 1 1 [rec1] := rows_one (k := Sx.kRec) B1 NB1 ⟨_, _, _, none, 0, 0, none, 0, none, 0, rfl, r_T, RdD.zero _, Sx.Rows.nil _ _ _, Sx.Rows.nil _ _ _⟩
  generalize u1.heap.size = M at *
  generalize (u1.alloc _) = w_2 at *
  clear B1 h1 NB1
  refine sat_call #[.slice none 0 0, .slice (some ⟨M, 0, none⟩) 1 1] (by kernel_rfl) fun w1 h1 => ?_
  refine (front_any _ _ _ _ [] [rec1] _ (Sx.Rows.nil _ _ _) (F_R.mv h1.mv).any).mono ?_
  rw [told_f1]
  rintro e v7 ⟨rfl, hb7⟩
  refine ⟨hb7, [.bool true], _, rfl, by kernel_rfl, by kernel_rfl, fun g7 => ?_⟩
  replace r_T := g7.rdD r_T
  clear h1 hb7 F_R
  refine sat_true (by kernel_rfl) ?_
  refine sat_rowN [.int .i64 3, .int .i64 300, .int .i64 100, .bool false, .slice (some ⟨N, 0, none⟩) 1 1, .int .i64 (-1), .bool false, .slice none 0 0, .int .i64 0, .slice none 0 0, .slice none 0 0] (by kernel_rfl) (by intro x hx; cases hx) fun u1 h1 B1 NB1 => ?_
  replace r_T := h1.rdD r_T
  have F_R : Sx.Rows Sx.kRec (Sx.NB _) _ (some ⟨u1.heap.size, 0, none⟩) 1 1 [rec1] := rows_one (k := Sx.kRec) B1 NB1 ⟨_, _, _, none, 0, 0, none, 0, none, 0, rfl, r_T, RdD.zero _, Sx.Rows.nil _ _ _, Sx.Rows.nil _ _ _⟩
  generalize u1.heap.size = M2 at *
  generalize (u1.alloc _) = w_3 at *
  clear B1 h1 NB1
  refine sat_call #[.slice (some ⟨M2, 0, none⟩) 1 1, .slice none 0 0] (by kernel_rfl) fun w1 h1 => ?_
  refine (front_any _ _ _ _ [rec1] [] _ (F_R.mv h1.mv).any (Sx.Rows.nil _ _ _)).mono ?_
  rw [told_f2]
  rintro e v8 ⟨rfl, hb8⟩
  refine ⟨hb8, [.bool false], _, rfl, by kernel_rfl, by kernel_rfl, fun g8 => ?_⟩
  refine sat_prim (v := .bool true) (by kernel_rfl) ?_
  exact sat_ret (.bool true) (by kernel_rfl) fun w9 h9 => rfl
end Go.Proofs.Ytpkfjfpknbhekaa
