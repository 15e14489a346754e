/- A symbolic executor for straight-line code, part G: its use over this program. Copies of structs in a walk by a tree: what is copied is looked at by the kernel. -/
import Derived.Test.YtaifjldpjkabjaaDoorSxCx
import Derived.Test.YtaifjldpjkabjaaDoorDyMx
namespace Go.Proofs.YtaifjldpjkabjaaDoor
open Go.RowKit Pl
namespace Sx
theorem mixed : Tryd.prog.follows .mixedOrders = true := by kernel_rfl
section
variable {w0 w w' : World} {R : Value → World → Prop} {Pn : List PanicEntry → World → Prop} {ρ : List Value} {t t' : Tree}
theorem Le.rdD (h : Le w0 w w') {u : Value} {d : Dy} (r : RdD w u d) : RdD w' u d := by
  obtain ⟨A, n, c, h1, h2, h3⟩ := r
  exact ⟨A, n, c, h1, h.rd (by decide) h2, h3⟩
theorem Le.r16 (h : Le w0 w w') {u : Value} {X : Nat} (r : R16 w u X) : R16 w' u X := by
  obtain ⟨A, n, c, h1, h2⟩ := r
  exact ⟨A, n, c, h1, h.rd (by decide) h2⟩
theorem Le.r64 (h : Le w0 w w') {u : Value} {X : Nat} (r : R64 w u X) : R64 w' u X := by
  obtain ⟨A, n, c, h1, h2⟩ := r
  exact ⟨A, n, c, h1, h.rd (by decide) h2⟩
theorem Le.tab (h : Le w0 w w') (hT : TabAt w0) : TabAt w' := hT.below h.b
theorem okB (b : Bool) : LeafOk (.bool b) := ⟨rfl, fun K x e => by cases e⟩
theorem okS (A : Option Addr) (n c : Nat) : LeafOk (.slice A n c) := ⟨rfl, fun K x e => by cases e⟩
theorem okI (n : Int) : LeafOk (.int .i64 n) := ⟨rfl, fun K x e => by injection e with e; exact e.symm⟩
theorem all_nil {p : At → Prop} : ∀ x ∈ ([] : List At), p x := fun x h => by cases h
theorem all_cons {p : At → Prop} {y : At} {l : List At} (h : p y) (k : ∀ x ∈ l, p x) : ∀ x ∈ y :: l, p x := fun x hx => by
  rcases List.mem_cons.1 hx with rfl | hx
  · exact h
  · exact k x hx
theorem sat_chk {l : List At} (h : ∀ x ∈ l, LeafOk (x.den ρ [])) (k : sat Tryd.prog w0 R Pn t ρ w) : sat Tryd.prog w0 R Pn (.chk l t) ρ w := ⟨h, k⟩
theorem sat_prim {p : Prim} {args : List At} {v : Value} (h : p.ev (denL ρ [] args) = some v) (k : sat Tryd.prog w0 R Pn t (ρ ++ [v]) w) : sat Tryd.prog w0 R Pn (.prim p args t) ρ w := ⟨v, h, k⟩
theorem sat_ite {c : At} {b : Bool} (h : c.den ρ [] = .bool b) (h1 : b = true → sat Tryd.prog w0 R Pn t ρ w) (h2 : b = false → sat Tryd.prog w0 R Pn t' ρ w) : sat Tryd.prog w0 R Pn (.ite c t t') ρ w := ⟨b, h, h1, h2⟩
theorem sat_true {c : At} (h : c.den ρ [] = .bool true) (k : sat Tryd.prog w0 R Pn t ρ w) : sat Tryd.prog w0 R Pn (.ite c t t') ρ w := ⟨true, h, fun _ => k, fun e => by cases e⟩
theorem sat_false {c : At} (h : c.den ρ [] = .bool false) (k : sat Tryd.prog w0 R Pn t' ρ w) : sat Tryd.prog w0 R Pn (.ite c t t') ρ w := ⟨false, h, fun e => (by cases e), fun _ => k⟩
theorem sat_trueP {c : At} {b : Bool} (h : c.den ρ [] = .bool b) (hb : b = true) (k : sat Tryd.prog w0 R Pn t ρ w) : sat Tryd.prog w0 R Pn (.ite c t t') ρ w := sat_true (h.trans (by rw [hb])) k
theorem sat_falseP {c : At} {b : Bool} (h : c.den ρ [] = .bool b) (hb : b = false) (k : sat Tryd.prog w0 R Pn t' ρ w) : sat Tryd.prog w0 R Pn (.ite c t t') ρ w := sat_false (h.trans (by rw [hb])) k
theorem sat_ret {v : Tm} (x : Value) (hv : v.den ρ [] = x) (h : ∀ w', Le w0 w w' → R x w') : sat Tryd.prog w0 R Pn (.ret v) ρ w := fun w' hl => by rw [hv]; exact h w' hl
/-- A call that returns. -/
theorem sat_call {f : FuncId} {args : List Tm} {sh : Sh} (vs : Array Value) (has : (args.map (Tm.den ρ [])).toArray = vs)
    (h : ∀ w1, Le w0 w w1 → Calls Tryd.prog f vs w1 fun e w2 => Below w1.heap.size w1 w2 ∧ ∃ l x, e = .returned x ∧ sh.val l = x ∧ l.length = sh.len ∧ (Le w0 w w2 → sat Tryd.prog w0 R Pn t (ρ ++ l) w2)) :
    sat Tryd.prog w0 R Pn (.call f args sh t) ρ w := by
  intro w1 h1
  rw [has]
  refine (h w1 h1).mono fun e w2 ⟨hb, l, x, he, hx, hl, hk⟩ => ?_
  subst he hx
  exact ⟨hb, l, hl, rfl, hk (h1.trans (Le.of h1.b hb))⟩
end
theorem sat_row {e : TypeId} {cs : List At} {n : Nat} {k : List At} {w0 w : World} {R : Value → World → Prop} {Pn : List PanicEntry → World → Prop} {ρ : List Value} {t : Tree} (vs : List Value) (hcs : denL ρ [] cs = vs) (hk : ∀ x ∈ k, (x.den ρ []).oneCell' = true)
    (h : ∀ w1 : World, Le w0 w (w1.alloc (.cells vs.toArray e)) → Box (w1.alloc (.cells vs.toArray e)) w1.heap.size vs e → sat Tryd.prog w0 R Pn t (ρ ++ [.slice (some ⟨w1.heap.size, 0, none⟩) n n]) (w1.alloc (.cells vs.toArray e))) : sat Tryd.prog w0 R Pn (.row e cs n k t) ρ w := by
  refine ⟨hk, fun w' hl => ?_⟩
  rw [hcs]
  exact h w' (hl.trans (Le.of hl.b (by go_grown))) (Box.new w' vs e)
/-- The call by its tree, where it does not panic; some parameters are known functions. -/
theorem runF (fx : List (Nat × FuncId)) {f : FuncId} {ls : List Value} {shs : List (Bool × Nat)} {t : Tree} {w : World} {R : Value → World → Prop} (hsh : shsOf Tryd.prog f = some shs) (ht : treeWith Tryd.prog f fx = some t) (hl : ls.length = (shs.map (·.2)).sum) (h1 : (shs.all fun c => c.1 || c.2 == 1) = true)
    (hfx : ∀ q ∈ fx, (tupV ls shs)[q.1]? = some (.func (.func q.2) #[] #[])) (hs : sat Tryd.prog w R (fun _ _ => False) t ls w) : Calls Tryd.prog f (tupV ls shs).toArray w fun e w' => ∃ v, e = .returned v ∧ R v w' ∧ Below w.heap.size w w' := by
  refine (sx_calls mixed hsh ht hl (fun c hc hf => ?_) hfx hs).mono fun e w' h => ?_
  · have := List.all_eq_true.1 h1 c hc
    simpa [hf] using this
  · cases e with
    | returned v => exact ⟨v, rfl, h.1, h.2⟩
    | panicked c => exact h.1.elim
    | outgrown => exact h.elim
/-- The call by its tree, where it does not panic. -/
theorem run {f : FuncId} {ls : List Value} {shs : List (Bool × Nat)} {t : Tree} {w : World} {R : Value → World → Prop} (hsh : shsOf Tryd.prog f = some shs) (ht : treeOf Tryd.prog f = some t) (hl : ls.length = (shs.map (·.2)).sum) (h1 : (shs.all fun c => c.1 || c.2 == 1) = true)
    (hs : sat Tryd.prog w R (fun _ _ => False) t ls w) : Calls Tryd.prog f (tupV ls shs).toArray w fun e w' => ∃ v, e = .returned v ∧ R v w' ∧ Below w.heap.size w w' := runF [] hsh ht hl h1 (fun q h => by cases h) hs
end Sx
end Go.Proofs.YtaifjldpjkabjaaDoor
namespace Go.Proofs.YtaifjldpjkabjaaDoor
open Go.RowKit Pl
open Sx (sat_chk okB okS okI)

/-- Which values a copy of a struct may hold, reckoned. -/
def okV : Value → Bool
  | .bool _ => true
  | .slice _ _ _ => true
  | .int .i64 _ => true
  | _ => false
theorem okV_leaf {v : Value} (h : okV v = true) : Sx.LeafOk v := by
  unfold okV at h
  split at h
  · exact okB _
  · exact okS _ _ _
  · exact okI _
  · cases h
theorem sat_chkB {w0 w : World} {R : Value → World → Prop} {Pn : List PanicEntry → World → Prop} {ρ : List Value} {t : Sx.Tree} {l : List Sx.At} (h : (l.all fun x => okV (x.den ρ [])) = true) (k : Sx.sat Tryd.prog w0 R Pn t ρ w) : Sx.sat Tryd.prog w0 R Pn (.chk l t) ρ w :=
  sat_chk (fun x hx => okV_leaf (List.all_eq_true.1 h x hx)) k
end Go.Proofs.YtaifjldpjkabjaaDoor
