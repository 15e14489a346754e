/- A symbolic executor for straight-line code, part A: terms, the state, what an operation does. Nothing of the program is in it. A symbolic executor for straight-line code, part B: what one operation gives, and that it does. -/
import Derived.Test.YtpkfjfpknbhekaaKitBx
import Derived.OrdersHeld
import Derived.Laws.CopyRow
import Derived.Deep.MidRow
namespace Go.Proofs.Ytpkfjfpknbhekaa
open Go.RowKit
namespace Sx

/-- An atom: a leaf that is bound, a constant, a place in a variable of the call's own. -/
inductive At where
  | lf (j : Nat)
  | num (k : IntKind) (n : Int)
  | bit (x : Bool)
  | nil
  | nilp
  | fn (f : FuncId)
  | ptr (b o : Nat)
  deriving DecidableEq
/-- A term: an atom, a flat aggregate, a tuple. -/
inductive Tm where
  | one (x : At)
  | ag (l : List At)
  | tup (l : List (Bool × List At))
  deriving DecidableEq
section
variable (ρ : List Value) (β : List Nat)
def At.den : At → Value
  | .lf j => ρ.getD j undef
  | .num k n => .int k n
  | .bit x => .bool x
  | .nil => .slice none 0 0
  | .nilp => .pointer none
  | .fn f => .func (.func f) #[] #[]
  | .ptr b o => .pointer (some ⟨β.getD b 0, o, none⟩)
def denL (l : List At) : List Value := l.map (At.den ρ β)
def denC (c : Bool × List At) : Value := if c.1 then .agg (denL ρ β c.2).toArray else (denL ρ β c.2).headD undef
def Tm.den : Tm → Value
  | .one x => x.den ρ β
  | .ag l => .agg (denL ρ β l).toArray
  | .tup l => .tuple (l.map (denC ρ β)).toArray
end
def At.noP : At → Bool
  | .ptr _ _ => false
  | _ => true
def Tm.noP : Tm → Bool
  | .one x => x.noP
  | .ag l => l.all At.noP
  | .tup l => l.all fun c => c.2.all At.noP
theorem At.den_noP {x : At} (h : x.noP = true) (ρ : List Value) (β β' : List Nat) : x.den ρ β = x.den ρ β' := by
  cases x <;> first | rfl | exact absurd h (by simp [At.noP])
theorem denL_noP {l : List At} (h : l.all At.noP = true) (ρ : List Value) (β β' : List Nat) : denL ρ β l = denL ρ β' l := by
  unfold denL
  exact List.map_congr_left fun x hx => At.den_noP (List.all_eq_true.1 h x hx) ρ β β'
theorem Tm.den_noP {x : Tm} (h : x.noP = true) (ρ : List Value) (β β' : List Nat) : x.den ρ β = x.den ρ β' := by
  cases x with
  | one x => exact At.den_noP h ρ β β'
  | ag l => simp only [Tm.den]; rw [denL_noP h ρ β β']
  | tup l =>
    simp only [Tm.den]
    congr 2
    refine List.map_congr_left fun c hc => ?_
    unfold denC
    rw [denL_noP (List.all_eq_true.1 h c hc) ρ β β']

/-- A constant as an atom. -/
def leafOf : Value → Option At
  | .bool b => some (.bit b)
  | .int k n => some (.num k n)
  | .slice none 0 0 => some .nil
  | .pointer none => some .nilp
  | _ => none
theorem leafOf_den {v : Value} {x : At} (h : leafOf v = some x) (ρ : List Value) (β : List Nat) : x.den ρ β = v := by
  unfold leafOf at h
  split at h <;> first | (injection h with h; subst h; rfl) | exact absurd h (by simp)
def leavesOf : List Value → Option (List At)
  | [] => some []
  | v :: r => match leafOf v, leavesOf r with
    | some x, some l => some (x :: l)
    | _, _ => none
theorem leavesOf_den (ρ : List Value) (β : List Nat) : ∀ {vs : List Value} {l : List At}, leavesOf vs = some l → denL ρ β l = vs
  | [], l, h => by simp [leavesOf] at h; subst h; rfl
  | v :: r, l, h => by
    unfold leavesOf at h
    split at h
    · rename_i x l' hx hl
      injection h with h
      subst h
      simp only [denL, List.map_cons]
      rw [leafOf_den hx ρ β]
      congr 1
      exact leavesOf_den ρ β hl
    · exact absurd h (by simp)

/-- The state: which slots hold which terms; the variables of the call's own; what is known of atoms; how many leaves are bound. -/
structure St where
  tm : List (Nat × Option Tm)
  bx : List (TypeId × List At)
  kb : List (Nat × Bool)
  n : Nat
  size : Nat
  pin : List Nat := []
def lookN {α : Type} (t : Nat) : List (Nat × α) → Option α
  | [] => none
  | (k, x) :: r => if t = k then some x else lookN t r
def St.get (σ : St) (t : Nat) : Option Tm := match lookN t σ.tm with | some x => x | none => none
def St.ev (σ : St) : Operand → Option Tm
  | .tmp t => σ.get t
  | .const v => (leafOf v).map .one
  | .func f => some (.one (.fn f))
  | .global _ => none
def St.evs (σ : St) : List Operand → Option (List Tm)
  | [] => some []
  | x :: r => match σ.ev x, σ.evs r with
    | some v, some l => some (v :: l)
    | _, _ => none
def asAt : Tm → Option At
  | .one x => some x
  | _ => none
def St.evAt (σ : St) (x : Operand) : Option At := (σ.ev x).bind asAt
def St.evAts (σ : St) : List Operand → Option (List At)
  | [] => some []
  | x :: r => match σ.evAt x, σ.evAts r with
    | some v, some l => some (v :: l)
    | _, _ => none
def St.boolOf (σ : St) : At → Option Bool
  | .bit x => some x
  | .lf j => lookN j σ.kb
  | _ => none
def Tm.leaves : Tm → Option (List At)
  | .one x => some [x]
  | .ag l => some l
  | .tup _ => none
def St.put (σ : St) (d : Option Nat) (v : Tm) : St := match d with | some d => { σ with tm := (d, some v) :: σ.tm } | none => σ
/-- A slot that an operation that is not wanted would have written holds nothing. -/
def St.del (σ : St) (d : Option Nat) : St := σ.put d (.tup [])
def St.know (σ : St) (x : At) (b : Bool) : St := match x with | .lf j => { σ with kb := (j, b) :: σ.kb } | _ => σ
/-- The state laid out, for the kernel's sake. -/
def forceL {α β : Type} : List α → (List α → β) → β
  | [], k => k []
  | x :: r, k => forceL r fun r' => k (x :: r')
theorem forceL_eq {α β : Type} : ∀ (l : List α) (k : List α → β), forceL l k = k l
  | [], _ => rfl
  | x :: r, k => by unfold forceL; rw [forceL_eq r]
def forceT {α β : Type} : List α → (List α → β) → β
  | [], k => k []
  | x :: r, k => match r with
    | [] => k [x]
    | y :: r' => k (x :: y :: r')
theorem forceT_eq {α β : Type} (l : List α) (k : List α → β) : forceT l k = k l := by
  cases l with
  | nil => rfl
  | cons x r => cases r <;> rfl
def forceN {β : Type} : Nat → (Nat → β) → β
  | 0, k => k 0
  | n + 1, k => k (n + 1)
theorem forceN_eq {β : Type} (n : Nat) (k : Nat → β) : forceN n k = k n := by cases n <;> rfl
def force {β : Type} (σ : St) (k : St → β) : β :=
  match σ with
  | ⟨tm, bx, kb, n, size, pin⟩ => forceT tm fun tm => forceL bx fun bx => forceT kb fun kb => forceN n fun n => forceN size fun size => k ⟨tm, bx, kb, n, size, pin⟩
theorem force_eq {β : Type} (σ : St) (k : St → β) : force σ k = k σ := by
  cases σ
  simp only [force, forceT_eq, forceL_eq, forceN_eq]
def forceTm {β : Type} (T : Tm) (k : Tm → β) : β :=
  match T with
  | .one x => k (.one x)
  | .ag l => forceL l fun l => k (.ag l)
  | .tup l => forceL l fun l => k (.tup l)
theorem forceTm_eq {β : Type} (T : Tm) (k : Tm → β) : forceTm T k = k T := by
  cases T <;> simp only [forceTm, forceL_eq]
/-- Where a slot may be written. -/
def St.fits (σ : St) (d : Option Nat) : Bool := match d with | some d => decide (d < σ.size) && !(σ.pin.contains d) | none => true

/-- Pure operations on leaves. -/
inductive Prim where
  | not
  | bin (op : BinOp)
  | bbin (op : BinOp)
  | len
  | neg
  | min
  | max
  | cvt (k : IntKind)
  | shl
  | shr
  | idx (sz : Nat)
  | fld (d : Nat)
  | slc (sz : Nat) (lo hi : Bool)
  | nchk
  | clo (f : FuncId) (n : Nat)
  | ifc (t : TypeId)
  | seq (ne : Bool)
  deriving DecidableEq
def intBin (op : BinOp) (k : IntKind) (a b : Int) : Option Value :=
  match op with
  | .eql => some (.bool (a == b))
  | .neq => some (.bool (a != b))
  | .lss => some (.bool (decide (a < b)))
  | .leq => some (.bool (decide (a ≤ b)))
  | .gtr => some (.bool (decide (b < a)))
  | .geq => some (.bool (decide (b ≤ a)))
  | .add => some (.int k (k.wrap (a + b)))
  | .sub => some (.int k (k.wrap (a - b)))
  | .mul => some (.int k (k.wrap (a * b)))
  | .quo => if b = 0 then none else some (.int k (k.wrap (a.tdiv b)))
  | .rem => if b = 0 then none else some (.int k (a.tmod b))
  | .and => some (.int k (bits .and k a b))
  | .or => some (.int k (bits .or k a b))
  | .xor => some (.int k (bits .xor k a b))
  | _ => none
def boolBin (op : BinOp) (a b : Bool) : Option Value :=
  match op with
  | .eql => some (.bool (a == b))
  | .neq => some (.bool (!(a == b)))
  | _ => none
def moveA (sz : Nat) (l : Nat) : Option Addr → Option (Option Addr)
  | none => some none
  | some ⟨g, off, none⟩ => some (some ⟨g, off + l * sz, none⟩)
  | _ => none
/-- A slice cut anew. -/
def cutV (sz : Nat) (A : Option Addr) (c : Nat) (l h : Int) : Option Value :=
  if 0 ≤ l ∧ l ≤ h ∧ h ≤ (c : Int) then
    if c = l.toNat then some (.slice A (h.toNat - l.toNat) (c - l.toNat)) else (moveA sz l.toNat A).map fun B => .slice B (h.toNat - l.toNat) (c - l.toNat)
  else none
def Prim.ev : Prim → List Value → Option Value
  | .not, [.bool b] => some (.bool !b)
  | .bin op, [.int k a, .int k' b] => if k = k' then intBin op k a b else none
  | .bbin op, [.bool a, .bool b] => boolBin op a b
  | .len, [.slice _ n _] => some (.int .i64 n)
  | .neg, [.int k a] => some (.int k (k.wrap (0 - a)))
  | .min, [.int k a, .int _ b] => some (.int k (if b < a then b else a))
  | .max, [.int k a, .int _ b] => some (.int k (if a < b then b else a))
  | .cvt k, [.int _ a] => some (.int k (k.wrap a))
  | .shl, [.int k a, .int _ b] => if b < 0 then none else some (.int k (k.wrap (a * 2 ^ (Nat.min b.toNat k.bits))))
  | .shr, [.int k a, .int _ b] => if b < 0 then none else some (.int k (a.fdiv (2 ^ (Nat.min b.toNat k.bits))))
  | .idx sz, [.slice (some ⟨g, off, none⟩) n _, .int _ i] => if 0 ≤ i ∧ i < (n : Int) then some (.pointer (some ⟨g, off + i.toNat * sz, none⟩)) else none
  | .fld d, [.pointer (some ⟨g, off, none⟩)] => some (.pointer (some ⟨g, off + d, none⟩))
  | .slc sz false true, [.slice A _ c, .int _ h] => cutV sz A c 0 h
  | .slc sz true false, [.slice A n c, .int _ l] => cutV sz A c l n
  | .slc sz true true, [.slice A _ c, .int _ l, .int _ h] => cutV sz A c l h
  | .nchk, [.pointer (some ad)] => some (.pointer (some ad))
  | .clo f n, vs => some (.func (.func f) (vs.take n).toArray (vs.drop n).toArray)
  | .ifc t, [] => some (.iface t (.agg #[]))
  | .seq ne, [.string a, .string b] => some (.bool ((a.toList == b.toList) != ne))
  | _, _ => none

/-- A frame: the world at the call's beginning; which blocks that were there the call may change; numbers of which kinds may stand in rows that it builds; the deferred calls. -/
structure Fr extends World where
  fr : List Nat
  nk : IntKind → Bool
  ni : nk .i64 = true
  df : List Deferred
  lo : Nat
  hlo : lo ≤ toWorld.heap.size
  pn : List (Nat × Value)
instance : Coe World Fr := ⟨fun w => ⟨w, [], fun K => K == .i64, rfl, [], w.heap.size, Nat.le_refl _, []⟩⟩
/-- A block that the call may change. -/
def Fre (w0 : Fr) (g : Nat) : Prop := g ∈ w0.fr ∨ w0.heap.size ≤ g
/-- All that is not the call's to change is as it was. -/
structure BelowF (w0 : Fr) (w : World) : Prop where
  os : w.os = w0.os
  tape : w.tape = w0.tape
  output : w.output = w0.output
  size : w0.heap.size ≤ w.heap.size
  block : ∀ k, k < w0.heap.size → k ∉ w0.fr → w.heap[k]? = w0.heap[k]?
theorem BelowF.refl (w0 : Fr) : BelowF w0 w0.toWorld := ⟨rfl, rfl, rfl, Nat.le_refl _, fun _ _ _ => rfl⟩
theorem BelowF.step {w0 : Fr} {w w' : World} (h : BelowF w0 w) (hb : Below w.heap.size w w') : BelowF w0 w' :=
  ⟨hb.os.trans h.os, hb.tape.trans h.tape, hb.output.trans h.output, Nat.le_trans h.size hb.size, fun k hk hn => (hb.block k (Nat.lt_of_lt_of_le hk h.size)).trans (h.block k hk hn)⟩
theorem BelowF.drew {w0 : Fr} {w : World} (h : BelowF w0 w) : BelowF w0 w.drew := h.step ((Below.refl _ _).drew)
theorem BelowF.setRow {w0 : Fr} {w : World} (h : BelowF w0 w) {g : Nat} (hg : Fre w0 g) (cs : Array Value) : BelowF w0 (w.setRow g cs) :=
  ⟨h.os, h.tape, h.output, by simp; exact h.size, fun k hk hn => (setRow_other w g k _ (fun e => hg.elim (fun hm => hn (e ▸ hm)) (fun hs => by omega))).trans (h.block k hk hn)⟩
theorem BelowF.below {w0 w : World} (h : BelowF (w0 : Fr) w) : Below w0.heap.size w0 w := ⟨h.os, h.tape, h.output, h.size, fun k hk => h.block k hk (by simp)⟩
theorem BelowF.of {w0 : Fr} {w : World} (h : Below w0.heap.size w0.toWorld w) : BelowF w0 w := ⟨h.os, h.tape, h.output, h.size, fun k hk _ => h.block k hk⟩
/-- A callee's changes are the caller's. -/
theorem BelowF.trans {w0 w1 : Fr} {w : World} (h : BelowF w0 w1.toWorld) (k : BelowF w1 w) (hf : ∀ g ∈ w1.fr, Fre w0 g) : BelowF w0 w :=
  ⟨k.os.trans h.os, k.tape.trans h.tape, k.output.trans h.output, Nat.le_trans h.size k.size, fun g hg hn => (k.block g (Nat.lt_of_lt_of_le hg h.size) (fun hm => (hf g hm).elim hn (fun hs => by omega))).trans (h.block g hg hn)⟩
/-- What is said of the call's own frame: its deferred calls, the slots that are not put anew. -/
def DfOk (w0 : Fr) (a : Act) : Prop := a.defers = w0.df ∧ ∀ q ∈ w0.pn, a.tmps[q.1]? = some q.2
def DfPin (w0 : Fr) (l : List Nat) (a : Act) : Prop := a.defers = w0.df ∧ ∀ q ∈ w0.pn, q.1 ∈ l ∧ a.tmps[q.1]? = some q.2
theorem DfPin.ok {w0 : Fr} {l : List Nat} {a : Act} (h : DfPin w0 l a) : DfOk w0 a := ⟨h.1, fun q hq => (h.2 q hq).2⟩
/-! What a state says of a frame and a world. -/
def LeafOk (v : Value) : Prop := v.oneCell' = true ∧ ∀ K x, v = .int K x → K = .i64
structure M0 (B0 : Nat) (σ : St) (ρ : List Value) (β : List Nat) (a : Act) (w : World) : Prop where
  sz : a.tmps.size = σ.size
  tm : ∀ t T, σ.get t = some T → ∀ l m, a.tmps[t]? = some (T.den (ρ ++ l) (β ++ m))
  bx : ∀ (b : Nat) (e : TypeId × List At), σ.bx[b]? = some e → ∃ g vs, β[b]? = some g ∧ (∀ l m, denL (ρ ++ l) (β ++ m) e.2 = vs) ∧ Box w g vs e.1 ∧ B0 ≤ g ∧ ∀ v ∈ vs, LeafOk v
  kb : ∀ j b, lookN j σ.kb = some b → ∀ l : List Value, (ρ ++ l).getD j undef = .bool b
structure M (w0 : Fr) (σ : St) (ρ : List Value) (β : List Nat) (a : Act) (w : World) : Prop where
  m0 : M0 w0.heap.size σ ρ β a w
  inj : ∀ b b' g : Nat, β[b]? = some g → β[b']? = some g → b = b'
  nb : β.length = σ.bx.length
  nn : ρ.length = σ.n
  le : BelowF w0 w
  df : DfPin w0 σ.pin a
section
variable {B0 : Nat} {σ : St} {ρ : List Value} {β : List Nat} {a : Act} {w w' : World} {w0 : Fr}
theorem M0.ext (h : M0 B0 σ ρ β a w) (l : List Value) (m : List Nat) : M0 B0 σ (ρ ++ l) (β ++ m) a w where
  sz := h.sz
  tm t T ht l' m' := by rw [List.append_assoc, List.append_assoc]; exact h.tm t T ht _ _
  bx b e he := by
    obtain ⟨g, vs, h1, h2, h3, h4, h5⟩ := h.bx b e he
    refine ⟨g, vs, ?_, fun l' m' => ?_, h3, h4, h5⟩
    · rw [List.getElem?_append_left (List.getElem?_eq_some_iff.1 h1).1]; exact h1
    · rw [List.append_assoc, List.append_assoc]; exact h2 _ _
  kb x b hx l' := by rw [List.append_assoc]; exact h.kb x b hx _
theorem M0.at (h : M0 B0 σ ρ β a w) {t : Nat} {T : Tm} (ht : σ.get t = some T) : a.tmps[t]? = some (T.den ρ β) := by
  have := h.tm t T ht [] []
  simpa using this
theorem M0.getD (h : M0 B0 σ ρ β a w) {t : Nat} {T : Tm} (ht : σ.get t = some T) : a.tmps.getD t undef = T.den ρ β := by
  rw [Array.getD_eq_getD_getElem?, h.at ht]; rfl
theorem M0.eval (h : M0 B0 σ ρ β a w) {x : Operand} {T : Tm} (hx : σ.ev x = some T) : a.eval x = T.den ρ β := by
  cases x with
  | tmp t => exact h.getD hx
  | const v =>
    simp only [St.ev, Option.map_eq_some_iff] at hx
    obtain ⟨y, hy, rfl⟩ := hx
    exact (leafOf_den hy ρ β).symm
  | func f => simp only [St.ev, Option.some.injEq] at hx; subst hx; rfl
  | global g => exact absurd hx (by simp [St.ev])
theorem M0.evalAt (h : M0 B0 σ ρ β a w) {x : Operand} {y : At} (hx : σ.evAt x = some y) : a.eval x = y.den ρ β := by
  unfold St.evAt at hx
  obtain ⟨T, hT, hy⟩ := Option.bind_eq_some_iff.1 hx
  cases T with
  | one z => simp only [asAt, Option.some.injEq] at hy; subst hy; exact h.eval hT
  | ag l => exact absurd hy (by simp [asAt])
  | tup l => exact absurd hy (by simp [asAt])
theorem M0.evals (h : M0 B0 σ ρ β a w) : ∀ {xs : List Operand} {ts : List Tm}, σ.evs xs = some ts → xs.map a.eval = ts.map (Tm.den ρ β)
  | [], ts, hx => by simp only [St.evs, Option.some.injEq] at hx; subst hx; rfl
  | x :: r, ts, hx => by
    unfold St.evs at hx
    split at hx
    · rename_i v l hv hl
      injection hx with hx
      subst hx
      simp only [List.map_cons]
      rw [h.eval hv, h.evals hl]
    · exact absurd hx (by simp)
theorem M0.evalAts (h : M0 B0 σ ρ β a w) : ∀ {xs : List Operand} {ts : List At}, σ.evAts xs = some ts → xs.map a.eval = denL ρ β ts
  | [], ts, hx => by simp only [St.evAts, Option.some.injEq] at hx; subst hx; rfl
  | x :: r, ts, hx => by
    unfold St.evAts at hx
    split at hx
    · rename_i v l hv hl
      injection hx with hx
      subst hx
      simp only [denL, List.map_cons]
      rw [h.evalAt hv]
      congr 1
      exact h.evalAts hl
    · exact absurd hx (by simp)
theorem M0.boolOf (h : M0 B0 σ ρ β a w) {x : At} {b : Bool} (hx : σ.boolOf x = some b) : x.den ρ β = .bool b := by
  cases x with
  | bit y => simp only [St.boolOf, Option.some.injEq] at hx; subst hx; rfl
  | lf j =>
    have := h.kb j b hx []
    rw [List.append_nil] at this
    exact this
  | num k n => cases hx
  | nil => cases hx
  | nilp => cases hx
  | fn f => cases hx
  | ptr b o => cases hx
theorem put_size (a : Act) (d : Option Nat) (v : Value) : (a.put d v).tmps.size = a.tmps.size := by cases d <;> simp [Act.put]
theorem put_defers (a : Act) (d : Option Nat) (v : Value) : (a.put d v).defers = a.defers := by cases d <;> rfl
theorem M0.put (h : M0 B0 σ ρ β a w) {d : Option Nat} {T : Tm} {v : Value} (hf : σ.fits d = true) (hv : ∀ l m, v = T.den (ρ ++ l) (β ++ m)) : M0 B0 (σ.put d T) ρ β (a.put d v) w where
  sz := by rw [put_size, h.sz]; cases d <;> rfl
  tm t T' ht l m := by
    cases d with
    | none => exact h.tm t T' ht l m
    | some d =>
      have hd : d < a.tmps.size := by rw [h.sz]; simp only [St.fits, Bool.and_eq_true, decide_eq_true_eq] at hf; exact hf.1
      by_cases e : t = d
      · subst e
        simp only [St.get, St.put, lookN, if_true, Option.some.injEq] at ht
        subst ht
        simp only [Act.put]
        rw [Array.getElem?_setIfInBounds_self_of_lt hd, hv l m]
      · simp only [St.get, St.put, lookN, if_neg e] at ht
        simp only [Act.put]
        rw [Array.getElem?_setIfInBounds_ne (fun h => e h.symm)]
        exact h.tm t T' ht l m
  bx b e he := h.bx b e (by cases d <;> exact he)
  kb x b hx := h.kb x b (by cases d <;> exact hx)
theorem M0.know (h : M0 B0 σ ρ β a w) {x : At} {b : Bool} (hx : ∀ l m, x.den (ρ ++ l) (β ++ m) = .bool b) : M0 B0 (σ.know x b) ρ β a w := by
  cases x with
  | lf j =>
    refine ⟨h.sz, h.tm, h.bx, fun y c hy l => ?_⟩
    by_cases e : y = j
    · subst e
      simp only [St.know, lookN, if_true, Option.some.injEq] at hy
      subst hy
      exact hx l []
    · simp only [St.know, lookN, if_neg e] at hy
      exact h.kb y c hy l
  | bit y => exact h
  | num k n => exact h
  | nil => exact h
  | nilp => exact h
  | fn f => exact h
  | ptr b o => exact h
/-- A later world that leaves all that was there. -/
theorem M0.keep (h : M0 B0 σ ρ β a w) (hb : Below w.heap.size w w') : M0 B0 σ ρ β a w' where
  sz := h.sz
  tm := h.tm
  bx b e he := by
    obtain ⟨g, vs, h1, h2, h3, h4, h5⟩ := h.bx b e he
    exact ⟨g, vs, h1, h2, h3.keep hb, h4, h5⟩
  kb := h.kb
theorem M0.drew (h : M0 B0 σ ρ β a w) : M0 B0 σ ρ β a w.drew where
  sz := h.sz
  tm := h.tm
  bx b e he := by
    obtain ⟨g, vs, h1, h2, h3, h4, h5⟩ := h.bx b e he
    exact ⟨g, vs, h1, h2, h3.drew, h4, h5⟩
  kb := h.kb
theorem DfPin.put {d : Option Nat} {v : Value} (h : DfPin w0 σ.pin a) (hf : σ.fits d = true) : DfPin w0 σ.pin (a.put d v) := by
  refine ⟨by rw [put_defers]; exact h.1, fun q hq => ⟨(h.2 q hq).1, ?_⟩⟩
  cases d with
  | none => exact (h.2 q hq).2
  | some d =>
    have hne : d ≠ q.1 := by
      rintro rfl
      simp only [St.fits, Bool.and_eq_true, Bool.not_eq_true'] at hf
      have h1 := List.contains_iff_mem.2 (h.2 q hq).1
      rw [hf.2] at h1
      cases h1
    simp only [Act.put]
    rw [Array.getElem?_setIfInBounds_ne hne]
    exact (h.2 q hq).2
theorem M.put (h : M w0 σ ρ β a w) {d : Option Nat} {T : Tm} {v : Value} (hf : σ.fits d = true) (hv : ∀ l m, v = T.den (ρ ++ l) (β ++ m)) : M w0 (σ.put d T) ρ β (a.put d v) w :=
  ⟨h.m0.put hf hv, h.inj, by rw [h.nb]; cases d <;> rfl, by rw [h.nn]; cases d <;> rfl, h.le, by cases d <;> exact h.df.put hf⟩
theorem M.del (h : M w0 σ ρ β a w) {d : Option Nat} (hf : σ.fits d = true) : M w0 (σ.del d) ρ β (a.put d undef) w := h.put hf fun _ _ => rfl
theorem M.know (h : M w0 σ ρ β a w) {x : At} {b : Bool} (hx : ∀ l m, x.den (ρ ++ l) (β ++ m) = .bool b) : M w0 (σ.know x b) ρ β a w :=
  ⟨h.m0.know hx, h.inj, by rw [h.nb]; cases x <;> rfl, by rw [h.nn]; cases x <;> rfl, h.le, by cases x <;> exact h.df⟩
theorem M.keep (h : M w0 σ ρ β a w) (hb : Below w.heap.size w w') : M w0 σ ρ β a w' := ⟨h.m0.keep hb, h.inj, h.nb, h.nn, h.le.step hb, h.df⟩
theorem M.drew (h : M w0 σ ρ β a w) : M w0 σ ρ β a w.drew := ⟨h.m0.drew, h.inj, h.nb, h.nn, h.le.drew, h.df⟩
/-- More leaves are bound. -/
def St.more (σ : St) (k : Nat) : St := { σ with n := σ.n + k }
theorem M.more (h : M w0 σ ρ β a w) (l : List Value) : M w0 (σ.more l.length) (ρ ++ l) β a w := by
  have h1 := h.m0.ext l []
  rw [List.append_nil] at h1
  exact ⟨⟨h1.sz, h1.tm, h1.bx, h1.kb⟩, h.inj, h.nb, by rw [List.length_append, h.nn]; rfl, h.le, h.df⟩
/-- A new variable. -/
def St.new (σ : St) (ty : TypeId) (cs : List At) : St := { σ with bx := σ.bx ++ [(ty, cs)] }
theorem M.new (h : M w0 σ ρ β a w) {ty : TypeId} {cs : List At} {vs : List Value} (hv : ∀ l m, denL (ρ ++ l) (β ++ m) cs = vs) (hok : ∀ v ∈ vs, LeafOk v) :
    M w0 (σ.new ty cs) ρ (β ++ [w.heap.size]) a (w.alloc (.cells vs.toArray ty)) := by
  have hb : Below w.heap.size w (w.alloc (.cells vs.toArray ty)) := by go_grown
  have h1 := (h.m0.ext [] [w.heap.size]).keep hb
  rw [List.append_nil] at h1
  have hlt : ∀ (b g : Nat), β[b]? = some g → g < w.heap.size := fun b g hg => by
    have hbl : b < σ.bx.length := by rw [← h.nb]; exact (List.getElem?_eq_some_iff.1 hg).1
    obtain ⟨g', vs', e1, _, e3, _⟩ := h.m0.bx b _ (List.getElem?_eq_getElem hbl)
    rw [hg] at e1
    injection e1 with e1
    subst e1
    exact e3.lt
  refine ⟨⟨h1.sz, h1.tm, fun b e he => ?_, h1.kb⟩, fun b b' g hg hg' => ?_, ?_, h.nn, h.le.step hb, h.df⟩
  · simp only [St.new] at he
    rcases Nat.lt_or_ge b σ.bx.length with hlt | hge
    · rw [List.getElem?_append_left hlt] at he
      exact h1.bx b e he
    · rw [List.getElem?_append_right hge] at he
      have hb0 : b = σ.bx.length := by
        have := (List.getElem?_eq_some_iff.1 he).1
        simp at this
        omega
      subst hb0
      simp only [Nat.sub_self, List.getElem?_cons_zero, Option.some.injEq] at he
      subst he
      refine ⟨w.heap.size, vs, ?_, fun l m => ?_, Box.new w vs ty, h.le.size, hok⟩
      · rw [← h.nb]; simp
      · rw [List.append_assoc]; exact hv _ _
  · rcases Nat.lt_or_ge b β.length with h2 | h2 <;> rcases Nat.lt_or_ge b' β.length with h3 | h3
    · rw [List.getElem?_append_left h2] at hg
      rw [List.getElem?_append_left h3] at hg'
      exact h.inj b b' g hg hg'
    · rw [List.getElem?_append_left h2] at hg
      have h4 := hlt b g hg
      have h5 := List.getElem?_eq_some_iff.1 hg'
      rw [List.getElem?_append_right h3] at hg'
      have : b' - β.length = 0 := by have := h5.1; simp at this; omega
      rw [this] at hg'
      simp at hg'
      omega
    · rw [List.getElem?_append_left h3] at hg'
      have h4 := hlt b' g hg'
      have h5 := List.getElem?_eq_some_iff.1 hg
      rw [List.getElem?_append_right h2] at hg
      have : b - β.length = 0 := by have := h5.1; simp at this; omega
      rw [this] at hg
      simp at hg
      omega
    · have h5 := (List.getElem?_eq_some_iff.1 hg).1
      have h6 := (List.getElem?_eq_some_iff.1 hg').1
      simp at h5 h6
      omega
  · simp [St.new, h.nb]
end

/-- A variable's new leaves. -/
def St.setb (σ : St) (b : Nat) (e : TypeId × List At) : St := { σ with bx := σ.bx.set b e }
theorem M.store {σ : St} {ρ : List Value} {β : List Nat} {a : Act} {w : World} {w0 : Fr} (h : M w0 σ ρ β a w) {b g off : Nat} {ty : TypeId} {cs ls : List At} {vs us : List Value} (he : σ.bx[b]? = some (ty, cs)) (hg : β[b]? = some g)
    (hv : ∀ l m, denL (ρ ++ l) (β ++ m) cs = vs) (hu : ∀ l m, denL (ρ ++ l) (β ++ m) ls = us) (hok : ∀ u ∈ us, LeafOk u) :
    M w0 (σ.setb b (ty, cs.take off ++ ls ++ cs.drop (off + ls.length))) ρ β a (w.setRow g (vs.take off ++ us ++ vs.drop (off + us.length)).toArray) := by
  obtain ⟨g0, vs0, e1, e2, e3, e4, e5⟩ := h.m0.bx b _ he
  rw [hg] at e1
  injection e1 with e1
  subst e1
  have evs : vs0 = vs := (e2 [] []).symm.trans (hv [] [])
  subst evs
  have hul : us.length = ls.length := by rw [← hu [] []]; simp [denL]
  have hb : b < σ.bx.length := (List.getElem?_eq_some_iff.1 he).1
  refine ⟨⟨h.m0.sz, h.m0.tm, fun b' e he' => ?_, h.m0.kb⟩, h.inj, by rw [h.nb]; simp [St.setb], h.nn, ?_, h.df⟩
  · simp only [St.setb] at he'
    by_cases hbb : b' = b
    · subst hbb
      rw [List.getElem?_set_self hb] at he'
      injection he' with he'
      subst he'
      refine ⟨g, _, hg, fun l m => ?_, setRow_heap w g vs0.toArray _ ty (0, 0) e3, e4, fun v hv' => ?_⟩
      · have h1 := hv l m
        have h2 := hu l m
        simp only [denL] at h1 h2 ⊢
        simp only [List.map_append, List.map_take, List.map_drop, h1, h2, hul]
      · rcases List.mem_append.1 hv' with h1 | h1
        · rcases List.mem_append.1 h1 with h2 | h2
          · exact e5 v (List.mem_of_mem_take h2)
          · exact hok v h2
        · exact e5 v (List.mem_of_mem_drop h1)
    · rw [List.getElem?_set_ne (fun h => hbb h.symm)] at he'
      obtain ⟨g', vs', f1, f2, f3, f4, f5⟩ := h.m0.bx b' e he'
      refine ⟨g', vs', f1, f2, ?_, f4, f5⟩
      have hne : g' ≠ g := fun e => hbb (h.inj b' b g (e ▸ f1) hg)
      unfold Box at *
      rw [setRow_other w g g' _ hne]
      exact f3
  · exact h.le.setRow (.inr e4) _
end Sx
end Go.Proofs.Ytpkfjfpknbhekaa
namespace Go.Proofs.Ytpkfjfpknbhekaa
open Go.RowKit
namespace Sx
section
variable (P : Program)
def szOf (ty : TypeId) : Option Nat := (P.info? ty).map (·.size)
def rowB (ty : TypeId) : Option Bool := (P.underlying ty).map TypeDesc.isRow
def zeros (ty : TypeId) : Option (List At) := (P.info? ty).bind fun i => i.zero.bind fun z => leavesOf z.cells.toList
/-- A field's place and size. -/
def fieldAt (s : TypeId) (f : Nat) : Option (Nat × Nat) :=
  match P.underlying s with
  | some (.struct fs) => (fs[f]?).bind fun x => (szOf P x.type).map fun n => (x.offset, n)
  | _ => none
/-- The shape of a value of a type. -/
inductive Sh where
  | one
  | ag (n : Nat)
  | tup (l : List (Bool × Nat))
  deriving DecidableEq
def shT (ty : TypeId) : Option (Bool × Nat) :=
  match rowB P ty, szOf P ty with
  | some true, some n => some (true, n)
  | some false, some 1 => some (false, 1)
  | _, _ => none
def shTs : List TypeId → Option (List (Bool × Nat))
  | [] => some []
  | t :: r => match shT P t, shTs r with
    | some x, some l => some (x :: l)
    | _, _ => none
def shOf : List TypeId → Option Sh
  | [t] => (shT P t).map fun x => if x.1 then .ag x.2 else .one
  | ts => (shTs P ts).map .tup
end
def lfs (n k : Nat) : List At := (List.range' n k).map .lf
def tupT : Nat → List (Bool × Nat) → List (Bool × List At)
  | _, [] => []
  | n, (b, k) :: r => (b, lfs n k) :: tupT (n + k) r
def Sh.len : Sh → Nat
  | .one => 1
  | .ag n => n
  | .tup l => (l.map (·.2)).sum
/-- The term of such a value whose leaves are the bound ones from the nth on. -/
def Sh.tm (n : Nat) : Sh → Tm
  | .one => .one (.lf n)
  | .ag k => .ag (lfs n k)
  | .tup l => .tup (tupT n l)
def tupV : List Value → List (Bool × Nat) → List Value
  | _, [] => []
  | vs, (b, k) :: r => (if b then .agg (vs.take k).toArray else (vs.take k).headD undef) :: tupV (vs.drop k) r
/-- The value of the shape over given leaves. -/
def Sh.val (vs : List Value) : Sh → Value
  | .one => vs.getD 0 undef
  | .ag k => .agg (vs.take k).toArray
  | .tup l => .tuple (tupV vs l).toArray
theorem lfs_den (ρ vs l : List Value) (β : List Nat) : ∀ (k o : Nat), o + k ≤ vs.length → denL (ρ ++ vs ++ l) β (lfs (ρ.length + o) k) = (vs.drop o).take k
  | 0, o, _ => by simp [lfs, denL]
  | k + 1, o, h => by
    have ih := lfs_den ρ vs l β k (o + 1) (by omega)
    unfold lfs denL at *
    rw [List.range'_succ, List.map_cons, List.map_cons]
    have e : At.den (ρ ++ vs ++ l) β (.lf (ρ.length + o)) = vs[o] := by
      simp only [At.den, List.append_assoc]
      rw [List.getD_eq_getElem?_getD, List.getElem?_append_right (by omega), List.getElem?_append_left (by omega)]
      simp [List.getElem?_eq_getElem (show o < vs.length by omega)]
    rw [e, show ρ.length + o + 1 = ρ.length + (o + 1) by omega, ih]
    rw [List.drop_eq_getElem_cons (show o < vs.length by omega), List.take_succ_cons]
theorem tup_den (ρ vs l : List Value) (β : List Nat) : ∀ (ks : List (Bool × Nat)) (o : Nat), o + (ks.map (·.2)).sum ≤ vs.length → (tupT (ρ.length + o) ks).map (denC (ρ ++ vs ++ l) β) = tupV (vs.drop o) ks
  | [], _, _ => rfl
  | (b, k) :: r, o, h => by
    simp only [List.map_cons, List.sum_cons] at h
    have ih := tup_den ρ vs l β r (o + k) (by omega)
    simp only [tupT, tupV, List.map_cons, denC]
    rw [lfs_den ρ vs l β k o (by omega), show ρ.length + o + k = ρ.length + (o + k) by omega, ih, List.drop_drop]
theorem sh_den (ρ vs l : List Value) (β : List Nat) (sh : Sh) (h : vs.length = sh.len) : (sh.tm ρ.length).den (ρ ++ vs ++ l) β = sh.val vs := by
  cases sh with
  | one =>
    have h1 := lfs_den ρ vs l β 1 0 (by simp only [Sh.len] at h; omega)
    simp only [Sh.len] at h
    simp only [Sh.tm, Tm.den, Sh.val, At.den, List.append_assoc]
    rw [List.getD_eq_getElem?_getD, List.getElem?_append_right (by omega), List.getElem?_append_left (by omega), List.getD_eq_getElem?_getD]
    simp
  | ag k =>
    have h1 := lfs_den ρ vs l β k 0 (by simp only [Sh.len] at h; omega)
    simp only [Sh.tm, Tm.den, Sh.val]
    rw [Nat.add_zero] at h1
    rw [h1]
    simp
  | tup ks =>
    have h1 := tup_den ρ vs l β ks 0 (by simp only [Sh.len] at h; omega)
    simp only [Sh.tm, Tm.den, Sh.val]
    rw [Nat.add_zero] at h1
    rw [h1]
    simp

/-- What an operation gives. -/
inductive Out where
  | val (v : Tm)
  | load (b : Nat) (v : Tm)
  | new (ty : TypeId) (cs : List At)
  | store (b o : Nat) (ls : List At)
  | prim (p : Prim) (args : List At)
  | call (f : FuncId) (args : List Tm) (sh : Sh)
  | row (e : TypeId) (cs : List At) (n : Nat) (k : List At)
  | fload (ty : TypeId) (x : At) (sh : Sh)
  | app (e : TypeId) (sz bytes : Nat) (s x : At)
  | appk (ik : IntKind) (e : TypeId) (sz bytes : Nat) (s x : At)
  | fst (ty : TypeId) (x : At) (v : Tm)
  | callv (x : At) (args : List Tm) (sh : Sh)
  | pan (x : At)
  | conv (src dst : TypeId) (x : At)
/-- Atoms of which nothing is to be shown before they are laid into memory; none: not so. -/
def At.okS : At → Option Bool
  | .lf _ => some false
  | .num .i64 _ => some true
  | .num _ _ => none
  | _ => some true
def chkOf : List At → Option (List At)
  | [] => some []
  | x :: r => match x.okS, chkOf r with
    | some true, some l => some l
    | some false, some l => some (x :: l)
    | _, _ => none
theorem okS_den {x : At} (h : x.okS = some true) (ρ : List Value) (β : List Nat) : LeafOk (x.den ρ β) := by
  cases x with
  | lf j => simp [At.okS] at h
  | num k n =>
    cases k <;> first | (exact ⟨rfl, fun K x e => by injection e with e; exact e.symm⟩) | (simp [At.okS] at h)
  | bit x => exact ⟨rfl, fun K x e => by cases e⟩
  | nil => exact ⟨rfl, fun K x e => by cases e⟩
  | nilp => exact ⟨rfl, fun K x e => by cases e⟩
  | fn f => exact ⟨rfl, fun K x e => by cases e⟩
  | ptr b o => exact ⟨rfl, fun K x e => by cases e⟩
theorem chk_ok (ρ : List Value) (β : List Nat) : ∀ {ls c : List At}, chkOf ls = some c → (∀ x ∈ c, LeafOk (x.den ρ β)) → ∀ v ∈ denL ρ β ls, LeafOk v
  | [], _, _, _, v, hv => by simp [denL] at hv
  | x :: r, c, h, hc, v, hv => by
    unfold chkOf at h
    split at h
    · rename_i l hx hl
      injection h with h
      subst h
      rcases List.mem_cons.1 (show v ∈ x.den ρ β :: denL ρ β r from hv) with rfl | hv
      · exact okS_den hx ρ β
      · exact chk_ok ρ β hl hc v hv
    · rename_i l hx hl
      injection h with h
      subst h
      rcases List.mem_cons.1 (show v ∈ x.den ρ β :: denL ρ β r from hv) with rfl | hv
      · exact hc x (List.mem_cons_self ..)
      · exact chk_ok ρ β hl (fun y hy => hc y (List.mem_cons_of_mem _ hy)) v hv
    · exact absurd h (by simp)
/-- Parts laid into a struct. -/
def fillS (pl : List (Nat × Nat)) : List At → List (Nat × Tm) → Option (List At)
  | cs, [] => some cs
  | cs, (j, T) :: r => match pl[j]?, T.leaves with
    | some (off, n), some ls => if ls.length = n ∧ off + n ≤ cs.length then fillS pl (cs.take off ++ ls ++ cs.drop (off + n)) r else none
    | _, _ => none
def placesOf (P : Program) (ty : TypeId) : Option (List (Nat × Nat)) :=
  match P.underlying ty with
  | some (.struct fs) => fs.toList.mapM (fun f => (P.info? f.type).map fun i => (f.offset, i.size))
  | _ => none
def St.evP (σ : St) : List (Nat × Operand) → Option (List (Nat × Tm))
  | [] => some []
  | (i, x) :: r => match σ.ev x, σ.evP r with
    | some v, some l => some ((i, v) :: l)
    | _, _ => none
def binP (P : Program) (ty : TypeId) (op : BinOp) : Option Prim :=
  match P.underlying ty with
  | some (.int _) => match op with
    | .shl => some .shl
    | .shr => some .shr
    | op => some (.bin op)
  | some .bool => some (.bbin op)
  | some .string => match op with
    | .eql => some (.seq false)
    | .neq => some (.seq true)
    | _ => none
  | _ => none
/-- The parts that are to be shown one cell. -/
def plainParts : List (Nat × Tm) → List At
  | [] => []
  | (_, .one (.lf j)) :: r => .lf j :: plainParts r
  | _ :: r => plainParts r
def goodF (P : Program) (f : FuncId) : Bool :=
  match P.funcs[f]? with
  | some fn => !(fn.name == "runtime.NumGoroutine") && fn.body.isSome
  | none => false
def resSh (P : Program) (f : FuncId) : Option Sh := (P.funcs[f]?).bind fun fn => shOf P fn.resultTypes.toList
def callOut (P : Program) (σ : St) (f : FuncId) (args : List Operand) : Option (List At × Out) :=
  if goodF P f then
    match σ.evs args, resSh P f with
    | some ts, some sh => if ts.all Tm.noP then some ([], .call f ts sh) else none
    | _, _ => none
  else none
/-- A call of a function value that is bound: its results are told by the operation's type. -/
def rslSh (P : Program) (ty : TypeId) : Option Sh :=
  match P.underlying ty with
  | some (.tuple ts) => shOf P ts.toList
  | _ => shOf P [ty]
def callvOut (P : Program) (σ : St) (x : At) (ty : TypeId) (args : List Operand) : Option (List At × Out) :=
  match σ.evs args, rslSh P ty with
  | some ts, some sh => if ts.all Tm.noP && x.noP then some ([], .callv x ts sh) else none
  | _, _ => none
def optAt (σ : St) : Option Operand → Option (List At)
  | none => some []
  | some x => (σ.evAt x).map fun y => [y]
/-- What appending to a row of such elements wants of the type. -/
def appInfo (P : Program) (t : TypeId) : Option (TypeId × Nat × Nat) :=
  match P.underlying t with
  | some (.slice e) => match P.info? e, zeros P e with
    | some i, some zs => if zs.length = i.size ∧ 0 < i.size ∧ chkOf zs = some [] then some (e, i.size, i.bytes) else none
    | _, _ => none
  | _ => none
/-- The same, where the elements are numbers. -/
def appInfoK (P : Program) (t : TypeId) : Option (IntKind × TypeId × Nat) :=
  match P.underlying t with
  | some (.slice e) => match P.info? e, zeros P e with
    | some i, some [.num k 0] => if i.size = 1 then some (k, e, i.bytes) else none
    | _, _ => none
  | _ => none
def outOf (P : Program) (σ : St) (o : Oper) : Option (List At × Out) :=
  match o.op with
  | .move x | .assign x => (σ.ev x).map fun v => ([], .val v)
  | .pick c x y => match (σ.evAt c).bind σ.boolOf with
    | some true => (σ.ev x).map fun v => ([], .val v)
    | some false => (σ.ev y).map fun v => ([], .val v)
    | none => none
  | .alloc ty => (zeros P ty).bind fun cs => (chkOf cs).map fun k => (k, .new ty cs)
  | .box ty x => ((σ.ev x).bind Tm.leaves).bind fun cs => (chkOf cs).map fun k => (k, .new ty cs)
  | .load ty x => match σ.evAt x, szOf P ty, rowB P ty with
    | some (.ptr b off), some n, some row => match σ.bx[b]? with
      | some (_, cs) =>
        if off + n ≤ cs.length then
          if row then some ([], .load b (.ag ((cs.drop off).take n)))
          else if n = 1 then (cs[off]?).map fun y => ([], .load b (.one y)) else none
        else none
      | none => none
    | some (.lf j), some n, some row => if row then some ([], .fload ty (.lf j) (.ag n)) else if n = 1 then some ([], .fload ty (.lf j) .one) else none
    | _, _, _ => none
  | .store ty x y => match σ.evAt x, (σ.ev y).bind Tm.leaves, szOf P ty with
    | some (.ptr b off), some ls, some n => if ls.length = n then (chkOf ls).map fun k => (k, .store b off ls) else none
    | some (.lf j), some _, some _ => match σ.ev y with
      | some T => if T.noP then some ([], .fst ty (.lf j) T) else none
      | none => none
    | _, _, _ => none
  | .build ty parts => match placesOf P ty, zeros P ty, σ.evP parts.toList with
    | some pl, some cs, some ps => (chkOf (ps.flatMap fun q => (q.2.leaves).getD [])).bind fun k => (fillS pl cs ps).map fun l => (k, .val (.ag l))
    | _, _, _ => none
  | .buildSlice ty len parts => match P.underlying ty with
    | some (.slice e) => match szOf P e, zeros P e, σ.evP parts.toList with
      | some sz, some zs, some ps =>
        if len = 0 ∧ parts.size = 0 then some ([], .row e [] 0 [])
        else if len * sz ≤ 10000 ∧ len * sz ≠ 0 ∧ zs.length = sz then
          (fillS ((List.range len).map fun i => (i * sz, sz)) ((List.range (len * sz)).map fun i => zs.getD (i % sz) .nil) ps).bind fun l =>
            some ([], .row e l len (plainParts ps))
        else none
      | _, _, _ => none
    | _ => none
  | .fieldAddr s x f => match σ.evAt x, fieldAt P s f with
    | some (.ptr b off), some (d, n) => if n = 0 then none else some ([], .val (.one (.ptr b (off + d))))
    | some (.lf j), some (d, n) => if n = 0 then none else some ([], .prim (.fld d) [.lf j])
    | _, _ => none
  | .indexAddr t x y => match P.underlying t with
    | some (.slice e) => match szOf P e, σ.evAt x, σ.evAt y with
      | some sz, some u, some v => some ([], .prim (.idx sz) [u, v])
      | _, _, _ => none
    | _ => none
  | .slice t x lo hi none => match P.underlying t with
    | some (.slice e) => match szOf P e, σ.evAt x, optAt σ lo, optAt σ hi with
      | some sz, some u, some l, some h => if lo.isSome || hi.isSome then some ([], .prim (.slc sz lo.isSome hi.isSome) (u :: l ++ h)) else none
      | _, _, _, _ => none
    | _ => none
  | .extract x j => match σ.ev x with
    | some (.tup l) => match l[j]? with
      | some (true, ls) => some ([], .val (.ag ls))
      | some (false, [y]) => some ([], .val (.one y))
      | _ => none
    | _ => none
  | .nilCheck x => match σ.evAt x with
    | some (.ptr b off) => some ([], .val (.one (.ptr b off)))
    | some (.lf j) => some ([], .prim .nchk [.lf j])
    | _ => none
  | .makeFunc (.func f) first caps => match σ.evAts first.toList, σ.evAts caps.toList with
    | some l, some c => some ([], .prim (.clo f l.length) (l ++ c))
    | _, _ => none
  | .makeInterface ty x => match σ.ev x, P.underlying ty with
    | some (.ag []), some (.struct _) => some ([], .prim (.ifc ty) [])
    | _, _ => none
  | .panic x => (σ.evAt x).bind fun y => if y.noP then some ([], .pan y) else none
  | .binOp op ty x y _ => match binP P ty op, σ.evAt x, σ.evAt y with
    | some p, some u, some v => some ([], .prim p [u, v])
    | _, _, _ => none
  | .unOp .not _ x => (σ.evAt x).map fun u => ([], .prim .not [u])
  | .unOp .neg _ x => (σ.evAt x).map fun u => ([], .prim .neg [u])
  | .convert src dst x => match P.underlying src, P.underlying dst, σ.evAt x with
    | some (.int _), some (.int k), some u => some ([], .prim (.cvt k) [u])
    | some (.slice _), some .string, some u => if u.noP then some ([], .conv src dst u) else none
    | _, _, _ => none
  | .call c => match c.callee with
    | .builtin .len => match c.args.toList, c.argTypes.toList with
      | [x], [ty] => match P.underlying ty, σ.evAt x with
        | some (.slice _), some u => some ([], .prim .len [u])
        | _, _ => none
      | _, _ => none
    | .builtin .min => match c.args.toList with
      | [x, y] => match σ.evAt x, σ.evAt y with
        | some u, some v => some ([], .prim .min [u, v])
        | _, _ => none
      | _ => none
    | .builtin .max => match c.args.toList with
      | [x, y] => match σ.evAt x, σ.evAt y with
        | some u, some v => some ([], .prim .max [u, v])
        | _, _ => none
      | _ => none
    | .builtin .append => match c.args.toList, c.argTypes.toList with
      | [x, y], [t, t'] => if t = t' then match appInfo P t, σ.evAt x, σ.evAt y with
          | some (e, sz, by'), some u, some v => some ([], .app e sz by' u v)
          | none, some u, some v => match appInfoK P t with
            | some (k, e, by') => some ([], .appk k e 1 by' u v)
            | none => none
          | _, _, _ => none
        else none
      | _, _ => none
    | .value x => match σ.evAt x with
      | some (.fn f) => callOut P σ f c.args.toList
      | some (.lf j) => callvOut P σ (.lf j) o.type c.args.toList
      | _ => none
    | _ => none
  | _ => none

/-- What it means, in the frame at hand. -/
def OutOk (P : Program) (σ : St) (ρ : List Value) (β : List Nat) (a : Act) (o : Oper) : Out → Prop
  | .val v => ∀ w, (execOp a.eval o).run P w = .ok (.value (v.den ρ β)) w
  | .load b v => ∀ e g w, σ.bx[b]? = some e → β[b]? = some g → Box w g (denL ρ β e.2) e.1 → (execOp a.eval o).run P w = .ok (.value (v.den ρ β)) w
  | .new ty cs => (∀ v ∈ denL ρ β cs, LeafOk v) ∧ ∀ w, (execOp a.eval o).run P w = .ok (.value (.pointer (some ⟨w.heap.size, 0, none⟩))) (w.alloc (.cells (denL ρ β cs).toArray ty))
  | .store b off ls => (∀ v ∈ denL ρ β ls, LeafOk v) ∧ ∀ e g w, σ.bx[b]? = some e → β[b]? = some g → Box w g (denL ρ β e.2) e.1 → off + ls.length ≤ e.2.length →
      (execOp a.eval o).run P w = .ok .skip (w.setRow g ((denL ρ β e.2).take off ++ denL ρ β ls ++ (denL ρ β e.2).drop (off + ls.length)).toArray)
  | .prim p args => ∀ v, p.ev (denL ρ β args) = some v → ∀ w, (execOp a.eval o).run P w = .ok (.value v) w
  | .call f args _ => ∀ w, (execOp a.eval o).run P w = .ok (.enter f (args.map (Tm.den ρ β)).toArray) w
  | .row e cs n k => (∀ x ∈ k, (x.den ρ β).oneCell' = true) → ∀ w, (execOp a.eval o).run P w = .ok (.value (.slice (some ⟨w.heap.size, 0, none⟩) n n)) (w.alloc (.cells (denL ρ β cs).toArray e))
  | .fload ty x _ => ∀ w ad v, x.den ρ β = .pointer (some ad) → (loadVar ty ad).run P w = .ok v w → (execOp a.eval o).run P w = .ok (.value v) w
  | .app e sz by' s x => ∃ t ty i z, P.underlying t = some (.slice e) ∧ P.info? e = some i ∧ i.zero = some z ∧ i.size = sz ∧ i.bytes = by' ∧ z.cells.size = sz ∧ 0 < sz ∧ (∀ v ∈ z.cells.toList, LeafOk v) ∧
      ∀ w v w', (Builtin.append_ #[t, t] ty #[s.den ρ β, x.den ρ β]).run P w = .ok v w' → (execOp a.eval o).run P w = .ok (.value v) w'
  | .appk ik e sz by' s x => ∃ t ty i z, P.underlying t = some (.slice e) ∧ P.info? e = some i ∧ i.zero = some z ∧ i.size = sz ∧ i.bytes = by' ∧ z.cells.size = sz ∧ 0 < sz ∧ (∀ v ∈ z.cells.toList, v.oneCell' = true ∧ ∀ K n, v = .int K n → K = ik) ∧
      ∀ w v w', (Builtin.append_ #[t, t] ty #[s.den ρ β, x.den ρ β]).run P w = .ok v w' → (execOp a.eval o).run P w = .ok (.value v) w'
  | .fst ty x T => ∀ w w' ad, x.den ρ β = .pointer (some ad) → (storeVar ty ad (T.den ρ β)).run P w = .ok () w' → (execOp a.eval o).run P w = .ok .skip w'
  | .callv x args _ => ∀ f first caps w, x.den ρ β = .func (.func f) first caps → goodF P f = true → (execOp a.eval o).run P w = .ok (.enter f (first ++ (args.map (Tm.den ρ β)).toArray ++ caps)) w
  | .pan x => ∀ t v w, x.den ρ β = .iface t v → (execOp a.eval o).run P w = .halt (.panic (.iface t v)) w
  | .conv src dst x => ∀ w v, (convert src dst (x.den ρ β)).run P w = .ok v w → (execOp a.eval o).run P w = .ok (.value v) w
theorem leaves_cells {T : Tm} {ls : List At} (h : T.leaves = some ls) (ρ : List Value) (β : List Nat) (hok : ∀ v ∈ denL ρ β ls, v.oneCell' = true) : (T.den ρ β).cells = (denL ρ β ls).toArray := by
  cases T with
  | one x =>
    simp only [Tm.leaves, Option.some.injEq] at h
    subst h
    have := hok (x.den ρ β) (by simp [denL])
    simp only [Tm.den, denL, List.map_cons, List.map_nil]
    generalize x.den ρ β = v at *
    cases v <;> first | rfl | exact absurd this (by simp [Value.oneCell'])
  | ag l => simp only [Tm.leaves, Option.some.injEq] at h; subst h; rfl
  | tup l => simp [Tm.leaves] at h
theorem run_zero {P : Program} {ty : TypeId} {cs : List At} (h : zeros P ty = some cs) (ρ : List Value) (β : List Nat) (w : World) :
    ∃ z, (zeroValue ty).run P w = .ok z w ∧ z.cells = (denL ρ β cs).toArray := by
  unfold zeros at h
  obtain ⟨i, hi, h⟩ := Option.bind_eq_some_iff.1 h
  obtain ⟨z, hz, h⟩ := Option.bind_eq_some_iff.1 h
  refine ⟨z, ?_, ?_⟩
  · simp [zeroValue, typeInfo, hi, hz]
  · rw [leavesOf_den ρ β h]
theorem box_range {w : World} {g : Nat} {vs : List Value} {ty : TypeId} (h : Box w g vs ty) (off n : Nat) : w.rangeAt g off ((vs.drop off).take n) := by
  intro j v hj
  rw [h.get]
  rw [List.getElem?_take] at hj
  split at hj
  · rw [List.getElem?_drop] at hj; exact hj
  · cases hj
theorem foldl_fill (off : Nat) : ∀ (xs : List Value) (j : Nat) (cells : Array Value), off + j + xs.length ≤ cells.size →
    ((xs.zipIdx j).foldl (fun cs (q : Value × Nat) => cs.setIfInBounds (off + q.2) q.1) cells).toList = cells.toList.take (off + j) ++ xs ++ cells.toList.drop (off + j + xs.length)
  | [], j, cells, _ => by simp
  | x :: r, j, cells, h => by
    simp only [List.length_cons] at h
    rw [List.zipIdx_cons, List.foldl_cons]
    rw [foldl_fill off r (j + 1) _ (by simp; omega)]
    have hl : off + j < cells.toList.length := by simp; omega
    simp only [Array.toList_setIfInBounds, List.length_cons]
    have e1 : (cells.toList.set (off + j) x).take (off + (j + 1)) = cells.toList.take (off + j) ++ [x] := by
      rw [show off + (j + 1) = off + j + 1 by omega, List.take_succ_eq_append_getElem (by simpa using hl), List.take_set_of_le (Nat.le_refl _)]
      simp
    have e2 : (cells.toList.set (off + j) x).drop (off + (j + 1) + r.length) = cells.toList.drop (off + j + (r.length + 1)) := by
      rw [List.drop_set_of_lt (by omega), show off + (j + 1) + r.length = off + j + (r.length + 1) by omega]
    rw [e1, e2]
    simp

theorem leaves_cells1 {T : Tm} {ls : List At} (h : T.leaves = some ls) (ρ : List Value) (β : List Nat) (hok : ∀ x, T = .one x → (x.den ρ β).oneCell' = true) : (T.den ρ β).cells = (denL ρ β ls).toArray := by
  cases T with
  | one x =>
    simp only [Tm.leaves, Option.some.injEq] at h
    subst h
    have := hok x rfl
    simp only [Tm.den, denL, List.map_cons, List.map_nil]
    generalize x.den ρ β = v at *
    cases v <;> first | rfl | exact absurd this (by simp [Value.oneCell'])
  | ag l => simp only [Tm.leaves, Option.some.injEq] at h; subst h; rfl
  | tup l => simp [Tm.leaves] at h
theorem fill_ok (pl : List (Nat × Nat)) (pf : Nat → Option (Nat × Nat)) (hpf : ∀ (j : Nat) x, pl[j]? = some x → pf j = some x) (ρ : List Value) (β : List Nat) : ∀ (ps : List (Nat × Tm)) (cs l : List At) (cells : Array Value), fillS pl cs ps = some l → cells = (denL ρ β cs).toArray →
    (∀ q ∈ ps, ∀ x, q.2 = .one x → (x.den ρ β).oneCell' = true) → Instr.fill pf cells (ps.map fun q => (q.1, q.2.den ρ β)) = some (denL ρ β l).toArray
  | [], cs, l, cells, h, hc, _ => by
    simp only [fillS, Option.some.injEq] at h
    subst h hc
    rfl
  | (j, T) :: r, cs, l, cells, h, hc, hok => by
    unfold fillS at h
    split at h
    · rename_i off n ls hp hl
      split at h
      · rename_i hn
        obtain ⟨hn1, hn2⟩ := hn
        have hcs := leaves_cells1 hl ρ β (hok _ (List.mem_cons_self ..))
        have hlen : (denL ρ β ls).length = n := by simp [denL, hn1]
        have hcl : (denL ρ β cs).length = cs.length := by simp [denL]
        rw [List.map_cons]
        unfold Instr.fill
        have hp2 := hpf j _ hp
        simp only [hp2, hcs, List.size_toArray, hlen, hc]
        rw [if_neg (by simp; omega)]
        refine fill_ok pl pf hpf ρ β r _ l _ h ?_ (fun q hq => hok q (List.mem_cons_of_mem _ hq))
        have e := foldl_fill off (denL ρ β ls) 0 (denL ρ β cs).toArray (by simp; omega)
        apply Array.toList_inj.1
        rw [← Array.foldl_toList, Array.toList_zipIdx]
        simp only [Nat.add_zero] at e
        refine e.trans ?_
        simp [denL, hn1]
      · cases h
    · cases h
theorem plain_ok (ρ : List Value) (β : List Nat) : ∀ {ps : List (Nat × Tm)}, (∀ x ∈ plainParts ps, (x.den ρ β).oneCell' = true) → ∀ q ∈ ps, ∀ x, q.2 = .one x → (x.den ρ β).oneCell' = true
  | (j, T) :: r, h, q, hq, x, hx => by
    rcases List.mem_cons.1 hq with rfl | hq
    · simp only at hx
      subst hx
      cases x with
      | lf j => exact h _ (by simp [plainParts])
      | num k n => rfl
      | bit b => rfl
      | nil => rfl
      | nilp => rfl
      | fn f => rfl
      | ptr b o => rfl
    · refine plain_ok ρ β (fun y hy => h y ?_) q hq x hx
      cases T with
      | one z => cases z <;> first | exact List.mem_cons_of_mem _ hy | exact hy
      | ag l => exact hy
      | tup l => exact hy
theorem evP_ok {B0 : Nat} {σ : St} {ρ : List Value} {β : List Nat} {a : Act} {w : World} (h : M0 B0 σ ρ β a w) : ∀ {xs : List (Nat × Operand)} {ts : List (Nat × Tm)}, σ.evP xs = some ts → xs.map (fun q => (q.1, a.eval q.2)) = ts.map fun q => (q.1, q.2.den ρ β)
  | [], ts, hx => by simp only [St.evP, Option.some.injEq] at hx; subst hx; rfl
  | (j, x) :: r, ts, hx => by
    unfold St.evP at hx
    split at hx
    · rename_i v l hv hl
      injection hx with hx
      subst hx
      simp only [List.map_cons]
      rw [h.eval hv, evP_ok h hl]
    · exact absurd hx (by simp)
theorem flat_ok (ρ : List Value) (β : List Nat) {ps : List (Nat × Tm)} {k : List At} (hk : chkOf (ps.flatMap fun q => (q.2.leaves).getD []) = some k) (hc : ∀ x ∈ k, LeafOk (x.den ρ β)) :
    ∀ q ∈ ps, ∀ x, q.2 = .one x → (x.den ρ β).oneCell' = true := by
  intro q hq x hx
  refine (chk_ok ρ β hk hc _ ?_).1
  unfold denL
  refine List.mem_map.2 ⟨x, List.mem_flatMap.2 ⟨q, hq, ?_⟩, rfl⟩
  rw [hx]
  simp [Tm.leaves]
end Sx
end Go.Proofs.Ytpkfjfpknbhekaa
