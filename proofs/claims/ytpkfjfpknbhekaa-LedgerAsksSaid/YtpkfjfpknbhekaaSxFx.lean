/- A symbolic executor, part F: code, loops, functions. -/
import Derived.Test.YtpkfjfpknbhekaaSxCx
import Derived.Scope
import Derived.Deep.LoopGhost
namespace Go.Proofs.Ytpkfjfpknbhekaa
open Go.RowKit
namespace Sx
section
variable (P : Program)
def compT : Tm → Option (Bool × List At)
  | .one x => some (false, [x])
  | .ag l => some (true, l)
  | .tup _ => none
def resT (σ : St) : ResultVar → Option Tm
  | .tmp t => σ.get t
  | .cell t ty => match σ.get t, szOf P ty, rowB P ty with
    | some (.one (.ptr b off)), some n, some row => match σ.bx[b]? with
      | some (_, cs) =>
        if off + n ≤ cs.length then
          if row then some (.ag ((cs.drop off).take n))
          else if n = 1 then (cs[off]?).map .one else none
        else none
      | none => none
    | _, _, _ => none
def resTs (σ : St) : List ResultVar → Option (List (Bool × List At))
  | [] => some []
  | r :: rs => match (resT P σ r).bind compT, resTs σ rs with
    | some c, some l => some (c :: l)
    | _, _ => none
def retT (σ : St) : List ResultVar → Option Tm
  | [r] => resT P σ r
  | rs => (resTs P σ rs).map .tup
def retK (fn : Func) (σ : St) : Option Tree := (retT P σ fn.results.toList).bind fun v => if v.noP then some (.ret v) else none
/-- The slots that a code writes. -/
def dstsC : Code → List Nat
  | .region _ ops _ => ops.toList.filterMap (·.dst)
  | .seq x y => dstsC x ++ dstsC y
  | .cond _ x y => dstsC x ++ dstsC y
  | .block _ b => dstsC b
  | .loop b => dstsC b
  | .scope b => dstsC b
  | _ => []
/-- A slot of a loop's head: it is as it was, or what it holds is bound anew in each round. -/
structure HSlot where
  t : Nat
  old : Tm
  new : Tm
  var : Bool
def hasN (t : Nat) : List Nat → Bool
  | [] => false
  | x :: r => if t = x then true else hasN t r
/-- What the slots hold at a loop's head: what the loop writes is bound anew. -/
def hslots (σ : St) (ds : List Nat) : Nat → List Nat → List (Nat × Option Tm) → List HSlot
  | _, _, [] => []
  | n, seen, (t, _) :: r =>
    if hasN t seen then hslots σ ds n seen r
    else match σ.get t with
      | some (.one y) => if hasN t ds then (if y.noP then ⟨t, .one y, .one (.lf n), true⟩ :: hslots σ ds (n + 1) (t :: seen) r else hslots σ ds n (t :: seen) r) else ⟨t, .one y, .one y, false⟩ :: hslots σ ds n (t :: seen) r
      | some (.ag l) => if hasN t ds then (if l.all At.noP then ⟨t, .ag l, .ag (lfs n l.length), true⟩ :: hslots σ ds (n + l.length) (t :: seen) r else hslots σ ds n (t :: seen) r) else ⟨t, .ag l, .ag l, false⟩ :: hslots σ ds n (t :: seen) r
      | some (.tup []) => hslots σ ds n (t :: seen) r
      | some (.tup l) => if hasN t ds then hslots σ ds n (t :: seen) r else ⟨t, .tup l, .tup l, false⟩ :: hslots σ ds n (t :: seen) r
      | none => hslots σ ds n (t :: seen) r
def leavesT : Tm → List At
  | .one x => [x]
  | .ag l => l
  | .tup _ => []
def initS : List HSlot → List At
  | [] => []
  | h :: r => (if h.var then leavesT h.old else []) ++ initS r
/-- The variables at a loop's head. -/
def hboxes (hv : List Nat) : Nat → Nat → List (TypeId × List At) → List (TypeId × List At)
  | _, _, [] => []
  | n, b, (ty, cs) :: r => if hasN b hv then (ty, lfs n cs.length) :: hboxes hv (n + cs.length) (b + 1) r else (ty, cs) :: hboxes hv n (b + 1) r
def initB (hv : List Nat) : Nat → List (TypeId × List At) → List At
  | _, [] => []
  | b, (_, cs) :: r => (if hasN b hv then cs else []) ++ initB hv (b + 1) r
/-- What the slots hold behind a round. -/
def backS (σ : St) : List HSlot → Option (List At)
  | [] => some []
  | h :: r => match σ.get h.t, backS σ r with
    | some T, some l =>
      if h.var then match T, h.new with
        | .one x, .one _ => some (x :: l)
        | .ag ls, .ag ls' => if ls.length = ls'.length then some (ls ++ l) else none
        | _, _ => none
      else if T = h.new then some l else none
    | _, _ => none
def backB (hv : List Nat) : Nat → List (TypeId × List At) → List (TypeId × List At) → Option (List At)
  | _, [], _ => some []
  | b, (ty, cs) :: r, e :: r' => match backB hv (b + 1) r r' with
    | some l =>
      if hasN b hv then if ty = e.1 ∧ cs.length = e.2.length then some (e.2 ++ l) else none
      else if (ty, cs) = e then some l else none
    | none => none
  | _, _ :: _, [] => none
def headSt (σ : St) (hs : List HSlot) (bs : List (TypeId × List At)) (k : Nat) : St := ⟨hs.map (fun h => (h.t, some h.new)), bs, σ.kb, σ.n + k, σ.size, σ.pin⟩
def backK (hv : List Nat) (d : Nat) (hs : List HSlot) (bs : List (TypeId × List At)) (k sz : Nat) (σ : St) : Option Tree :=
  match backS σ hs, backB hv 0 bs σ.bx with
  | some l, some l' => if (l ++ l').all At.noP ∧ (l ++ l').length = k ∧ σ.size = sz then some (.back d (l ++ l')) else none
  | _, _ => none
def forceH {β : Type} : List HSlot → (List HSlot → β) → β
  | [], k => k []
  | ⟨t, old, new, var⟩ :: r, k => forceN t fun t => forceTm old fun old => forceTm new fun new => forceH r fun r' => k (⟨t, old, new, var⟩ :: r')
theorem forceH_eq {β : Type} : ∀ (l : List HSlot) (k : List HSlot → β), forceH l k = k l
  | [], _ => rfl
  | ⟨_, _, _, _⟩ :: r, k => by simp only [forceH, forceN_eq, forceTm_eq]; rw [forceH_eq r]
def forceB {β : Type} : List (TypeId × List At) → (List (TypeId × List At) → β) → β
  | [], k => k []
  | (t, l) :: r, k => forceN t fun t => forceL l fun l => forceB r fun r' => k ((t, l) :: r')
theorem forceB_eq {β : Type} : ∀ (l : List (TypeId × List At)) (k : List (TypeId × List At) → β), forceB l k = k l
  | [], _ => rfl
  | (_, _) :: r, k => by simp only [forceB, forceN_eq, forceL_eq]; rw [forceB_eq r]
/-- One way may lead where nothing is covered: then it must not be gone. -/
def ite2 (z : At) : Option Tree → Option Tree → Option Tree
  | some t, some e => some (.ite z t e)
  | some t, none => some (.ite z t .dead)
  | none, some e => some (.ite z .dead e)
  | none, none => none
theorem ite2_sat {P : Program} {w0 : Fr} {R : Value → World → Prop} {Pn : List PanicEntry → World → Prop} {Bk : Back} {z : At} {ρ : List Value} {w : OW} {t : Tree} : ∀ {x y : Option Tree}, ite2 z x y = some t → satB P w0 R Pn Bk t ρ w →
    ∃ b, z.den ρ [] = .bool b ∧ (b = true → ∃ t1, x = some t1 ∧ satB P w0 R Pn Bk t1 ρ w) ∧ (b = false → ∃ t1, y = some t1 ∧ satB P w0 R Pn Bk t1 ρ w)
  | some t1, some e1, h, hs => by
    injection h with h
    subst h
    obtain ⟨b, hb, k1, k2⟩ := hs
    exact ⟨b, hb, fun e => ⟨_, rfl, k1 e⟩, fun e => ⟨_, rfl, k2 e⟩⟩
  | some t1, none, h, hs => by
    injection h with h
    subst h
    obtain ⟨b, hb, k1, k2⟩ := hs
    exact ⟨b, hb, fun e => ⟨_, rfl, k1 e⟩, fun e => (k2 e).elim⟩
  | none, some e1, h, hs => by
    injection h with h
    subst h
    obtain ⟨b, hb, k1, k2⟩ := hs
    exact ⟨b, hb, fun e => (k1 e).elim, fun e => ⟨_, rfl, k2 e⟩⟩
  | none, none, h, _ => by cases h
def exC (fn : Func) (hv es : List Nat) : Nat → Code → St → (St → Option Tree) → List (Nat × (St → Option Tree)) → Option Tree
  | _, .skip, σ, K, _ => K σ
  | _, .region _ ops false, σ, K, _ => exL P es [] ops ops.toList σ K
  | _, .region _ ops true, σ, K, _ => if Region.noSelect ops then forceL (stableOf σ ops) fun st => exDraw P es st ops σ K else none
  | d, .seq x y, σ, K, B => exC fn hv es d x σ (fun σ' => exC fn hv es d y σ' K B) B
  | d, .cond c x y, σ, K, B => match σ.evAt c with
    | some z => match σ.boolOf z with
      | some b => if b then exC fn hv es d x σ K B else exC fn hv es d y σ K B
      | none => if z.noP then ite2 z (force (σ.know z true) (fun σ => exC fn hv es d x σ K B)) (force (σ.know z false) (fun σ => exC fn hv es d y σ K B))
        else none
    | none => none
  | d, .block id b, σ, K, B => exC fn hv es d b σ K ((id, K) :: B)
  | _, .exit id, σ, _, B => match B.lookup id with
    | some K => K σ
    | none => none
  | d, .loop c, σ, _, B => forceH (hslots σ (dstsC c) σ.n [] σ.tm) fun hs => forceL (initS hs ++ initB hv 0 σ.bx) fun init => forceN init.length fun k => forceB (hboxes hv (σ.n + (initS hs).length) 0 σ.bx) fun bs =>
      if init.all At.noP then (force (headSt σ hs bs k) fun σ' => exC fn hv es (d + 1) c σ' (backK hv d hs bs k σ.size) B).map (.loop d init) else none
  | d, .scope c, σ, K, B => exC fn hv es d c σ K B
  | _, .label _, σ, K, _ => K σ
  | _, .ret, σ, _, _ => retK P fn σ
  | _, _, _, _, _ => none
def compT' : Bool × List At → Tm
  | (true, l) => .ag l
  | (false, [x]) => .one x
  | (false, l) => .ag l
def slots : Nat → List (Bool × List At) → List (Nat × Option Tm)
  | _, [] => []
  | k, c :: r => (k, some (compT' c)) :: slots (k + 1) r
def shsOf (f : FuncId) : Option (List (Bool × Nat)) := (P.funcs[f]?).bind fun fn => shTs P fn.params.toList
/-- The tree of a function, some of whose parameters are known functions; its parameters' shapes are given; hv: which variables a loop may change; es: the slots of variables that other functions write. -/
def treeEs (f : FuncId) (fx : List (Nat × FuncId)) (hv es : List Nat) (shs : List (Bool × Nat)) : Option Tree :=
  match P.funcs[f]? with
  | some fn => match fn.body with
    | some c => if shs.length ≤ fn.ntmps then forceL (fx.map (fun q => (q.1, some (.one (.fn q.2)))) ++ slots 0 (tupT 0 shs)) fun tm => forceN ((shs.map (·.2)).sum) fun n => exC P fn hv es 0 c ⟨tm, [], [], n, fn.ntmps, []⟩ (retK P fn) [] else none
    | none => none
  | none => none
def treeAt (f : FuncId) (fx : List (Nat × FuncId)) (hv : List Nat) (shs : List (Bool × Nat)) : Option Tree := treeEs P f fx hv [] shs
/-- The tree of a function, some of whose parameters are known functions. -/
def treeWith (f : FuncId) (fx : List (Nat × FuncId)) : Option Tree :=
  match shsOf P f with
  | some shs => treeAt P f fx [] shs
  | none => none
def treeOf (f : FuncId) : Option Tree := treeWith P f []
end
def resOne (tmps : Array Value) : ResultVar → Sem Value
  | .tmp t => pure (tmps.getD t undef)
  | .cell a t => do loadVar t (← asAddr (tmps.getD a undef))
section
variable {P : Program} {w0 : Fr} {R : Value → World → Prop} {Pn : List PanicEntry → World → Prop} {Bk : Back}
  {σ : St} {ρ : List Value} {β : List Nat} {a : Act} {w : World} {o : Oper} {K : St → Option Tree} {t : Tree} {Q : Exit → Act → World → Prop}
theorem resT_ok (hM : M w0 σ ρ β a w) {r : ResultVar} {v : Tm} (h : resT P σ r = some v) : (resOne a.tmps r).run P w = .ok (v.den ρ β) w := by
  cases r with
  | tmp t =>
    simp only [resT] at h
    simp only [resOne, hM.m0.getD h, Sem.run_pure]
  | cell t ty =>
    simp only [resT] at h
    split at h
    · rename_i b off n row hx hn hr
      split at h
      · rename_i ty' cs hb
        obtain ⟨g, vs, e1, e2, e3, _⟩ := hM.m0.bx b _ hb
        have ed : denL ρ β cs = vs := by have := e2 [] []; simpa using this
        have hB : Box w g (denL ρ β cs) ty' := by rw [ed]; exact e3
        split at h
        · rename_i hle
          have h1 := load_ok (ρ := ρ) (β := β) (e := (ty', cs)) hn hr hB hle
          simp only [resOne, hM.m0.getD hx, Tm.den, den_ptr e1, asAddr, Sem.run_bind, Sem.run_pure, Result.andThen_ok]
          split at h
          · rename_i hrow
            injection h with h
            subst h
            exact h1.1 hrow
          · rename_i hrow
            split at h
            · obtain ⟨y, hy, rfl⟩ := Option.map_eq_some_iff.1 h
              exact h1.2 (by simpa using hrow) y hy
            · cases h
        · cases h
      · cases h
    · cases h
theorem comp_den {T : Tm} {c : Bool × List At} (h : compT T = some c) : denC ρ β c = T.den ρ β := by
  cases T <;> simp only [compT, Option.some.injEq, reduceCtorEq] at h
  · subst h; rfl
  · subst h; rfl
theorem resTs_ok (hM : M w0 σ ρ β a w) : ∀ {rs : List ResultVar} {l : List (Bool × List At)}, resTs P σ rs = some l →
    (rs.mapM (resOne a.tmps)).run P w = .ok (l.map (denC ρ β)) w
  | [], l, h => by simp only [resTs, Option.some.injEq] at h; subst h; rfl
  | r :: rs, l, h => by
    unfold resTs at h
    split at h
    · rename_i c l' hc hl
      injection h with h
      subst h
      obtain ⟨T, hT, hcT⟩ := Option.bind_eq_some_iff.1 hc
      rw [List.mapM_cons, Sem.run_bind, resT_ok hM hT, Result.andThen_ok, Sem.run_bind, resTs_ok hM hl, Result.andThen_ok, Sem.run_pure]
      rw [List.map_cons, comp_den hcT]
    · cases h
theorem retT_ok (hM : M w0 σ ρ β a w) {fn : Func} {v : Tm} (h : retT P σ fn.results.toList = some v) : (results fn a.tmps).run P w = .ok (v.den ρ β) w := by
  show ((do let vs ← fn.results.mapM (resOne a.tmps); pure (if h : vs.size = 1 then vs[0] else .tuple vs) : Sem Value)).run P w = _
  rw [Sem.run_bind, Array.mapM_eq_mapM_toList]
  unfold retT at h
  split at h
  · rename_i r hr
    have h1 := resT_ok hM h
    rw [hr]
    simp only [Sem.run_map, List.mapM_cons, List.mapM_nil, Sem.run_bind, h1, Result.andThen_ok, Sem.run_pure]
    rfl
  · rename_i rs hne
    obtain ⟨l, hl, rfl⟩ := Option.map_eq_some_iff.1 h
    have h1 := resTs_ok hM hl
    simp only [Sem.run_map, h1, Result.andThen_ok]
    have hlen : l.length = fn.results.toList.length := by
      have : ∀ {rs : List ResultVar} {l : List (Bool × List At)}, resTs P σ rs = some l → l.length = rs.length := by
        intro rs
        induction rs with
        | nil => intro l h; simp only [resTs, Option.some.injEq] at h; subst h; rfl
        | cons r rs ih =>
          intro l h
          unfold resTs at h
          split at h
          · rename_i c l' hc hl
            injection h with h
            subst h
            simp [ih hl]
          · cases h
      exact this hl
    have hn1 : l.length ≠ 1 := by
      rw [hlen]
      intro e
      obtain ⟨r, hr⟩ := List.length_eq_one_iff.1 e
      exact hne r hr
    simp [Tm.den, hn1]
/-- What a function's call comes to. -/
def EndOk (w0 : Fr) (R : Value → World → Prop) (Pn : List PanicEntry → World → Prop) (e : Ending) (w : World) : Prop :=
  match e with
  | .returned v => R v w ∧ BelowF w0 w
  | .panicked c => Pn c w ∧ BelowF w0 w
  | .outgrown => False
/-! Loops: what a head's state says. -/
/-- Which slots a head has, and where its new leaves stand. -/
def HOk (σ : St) : Nat → List HSlot → Prop
  | _, [] => True
  | n, h :: r => σ.get h.t = some h.old ∧ ((h.var = false ∧ h.new = h.old ∧ HOk σ n r) ∨ (h.var = true ∧ ((∃ y, h.old = .one y ∧ h.new = .one (.lf n)) ∨ (∃ l, h.old = .ag l ∧ h.new = .ag (lfs n l.length))) ∧ HOk σ (n + (leavesT h.old).length) r))
theorem hslots_ok (σ : St) (ds : List Nat) : ∀ (tm : List (Nat × Option Tm)) (n : Nat) (seen : List Nat), HOk σ n (hslots σ ds n seen tm)
  | [], _, _ => trivial
  | (t, x) :: r, n, seen => by
    unfold hslots
    split
    · exact hslots_ok σ ds r n seen
    · split
      · rename_i y hy
        split
        · split
          · exact ⟨hy, .inr ⟨rfl, .inl ⟨y, rfl, rfl⟩, hslots_ok σ ds r _ _⟩⟩
          · exact hslots_ok σ ds r _ _
        · exact ⟨hy, .inl ⟨rfl, rfl, hslots_ok σ ds r _ _⟩⟩
      · rename_i l hl
        split
        · split
          · exact ⟨hl, .inr ⟨rfl, .inr ⟨l, rfl, rfl⟩, hslots_ok σ ds r _ _⟩⟩
          · exact hslots_ok σ ds r _ _
        · exact ⟨hl, .inl ⟨rfl, rfl, hslots_ok σ ds r _ _⟩⟩
      · exact hslots_ok σ ds r _ _
      · rename_i l hl0 hl
        split
        · exact hslots_ok σ ds r _ _
        · exact ⟨hl, .inl ⟨rfl, rfl, hslots_ok σ ds r _ _⟩⟩
      · exact hslots_ok σ ds r _ _
/-- What the frame's slots hold, the new leaves' values being given. -/
def SlotsAre (ρ0 : List Value) (β0 : List Nat) (a : Act) : List HSlot → List Value → Prop
  | [], _ => True
  | h :: r, vs => (h.var = false ∧ (∀ l m, a.tmps[h.t]? = some (h.new.den (ρ0 ++ l) (β0 ++ m))) ∧ SlotsAre ρ0 β0 a r vs) ∨
      (h.var = true ∧ ((∃ y, h.old = .one y ∧ ∃ v, vs.head? = some v ∧ a.tmps[h.t]? = some v) ∨ (∃ l, h.old = .ag l ∧ a.tmps[h.t]? = some (.agg (vs.take l.length).toArray))) ∧ SlotsAre ρ0 β0 a r (vs.drop (leavesT h.old).length))
theorem slots_tm {ρ0 V : List Value} {β0 : List Nat} {a : Act} : ∀ {hs : List HSlot} {o : Nat}, o + (initS hs).length ≤ V.length → HOk σ (ρ0.length + o) hs → SlotsAre ρ0 β0 a hs (V.drop o) →
    ∀ t T, lookN t (hs.map fun h => (h.t, some h.new)) = some (some T) → ∀ l m, a.tmps[t]? = some (T.den (ρ0 ++ V ++ l) (β0 ++ m))
  | [], _, _, _, _, t, T, h => by simp [lookN] at h
  | h :: r, o, hlen, hH, hS, t, T, hl => by
    obtain ⟨hg, hH⟩ := hH
    simp only [initS, List.length_append] at hlen
    simp only [List.map_cons, lookN] at hl
    split at hl
    · rename_i e
      injection hl with hl
      injection hl with hl
      subst hl e
      intro l m
      rcases hH with ⟨h1, h2, _⟩ | ⟨h1, h2, _⟩
      · rcases hS with ⟨_, h3, _⟩ | ⟨h3, _⟩
        · rw [List.append_assoc]; exact h3 _ _
        · rw [h1] at h3; cases h3
      · rw [if_pos h1] at hlen
        rcases hS with ⟨h3, _⟩ | ⟨_, h3, _⟩
        · rw [h1] at h3; cases h3
        · rcases h2 with ⟨y, e1, e2⟩ | ⟨l1, e1, e2⟩ <;> rcases h3 with ⟨y', e3, v, e4, e5⟩ | ⟨l2, e3, e5⟩
          · rw [e5, e2]
            simp only [Tm.den, At.den]
            rw [List.head?_drop] at e4
            have hlt := (List.getElem?_eq_some_iff.1 e4).1
            rw [List.append_assoc, List.getD_eq_getElem?_getD, List.getElem?_append_right (by omega), Nat.add_sub_cancel_left, List.getElem?_append_left hlt, e4]
            rfl
          · rw [e1] at e3; cases e3
          · rw [e1] at e3; cases e3
          · rw [e1] at e3
            injection e3 with e3
            subst e3
            rw [e1] at hlen
            simp only [leavesT] at hlen
            rw [e5, e2]
            simp only [Tm.den]
            rw [lfs_den ρ0 V l (β0 ++ m) l1.length o (by omega)]
    · rcases hH with ⟨h1, _, h2⟩ | ⟨h1, _, h2⟩
      · rw [if_neg (by rw [h1]; simp)] at hlen
        rcases hS with ⟨_, _, h3⟩ | ⟨h3, _⟩
        · exact slots_tm (by simpa using hlen) h2 h3 t T hl
        · rw [h1] at h3; cases h3
      · rw [if_pos h1] at hlen
        rcases hS with ⟨h3, _⟩ | ⟨_, _, h3⟩
        · rw [h1] at h3; cases h3
        · rw [List.drop_drop] at h3
          exact slots_tm (o := o + (leavesT h.old).length) (by omega) (by rw [← Nat.add_assoc]; exact h2) h3 t T hl
/-- At the start. -/
theorem slots_start {w : World} (hM : M w0 σ ρ β a w) : ∀ {hs : List HSlot} {n : Nat} {rest : List Value}, HOk σ n hs → SlotsAre ρ β a hs (denL ρ β (initS hs) ++ rest)
  | [], _, _, _ => trivial
  | h :: r, n, rest, hH => by
    obtain ⟨hg, ⟨h1, h2, h3⟩ | ⟨h1, h2, h3⟩⟩ := hH
    · refine .inl ⟨h1, fun l m => ?_, ?_⟩
      · rw [h2]; exact hM.m0.tm _ _ hg l m
      · simp only [initS, h1, Bool.false_eq_true, if_false, List.nil_append]; exact slots_start hM h3
    · refine .inr ⟨h1, ?_, ?_⟩
      · have hat := hM.m0.at hg
        rcases h2 with ⟨y, e1, _⟩ | ⟨l, e1, _⟩
        · refine .inl ⟨y, e1, y.den ρ β, ?_, by rw [hat, e1]; rfl⟩
          simp [initS, h1, e1, leavesT, denL]
        · refine .inr ⟨l, e1, ?_⟩
          rw [hat, e1]
          simp only [initS, h1, if_true, e1, leavesT, Tm.den, denL, List.map_append, List.append_assoc]
          rw [List.take_left' (by simp)]
      · simp only [initS, h1, if_true, denL, List.map_append, List.append_assoc]
        rw [List.drop_left' (by simp)]
        exact slots_start hM h3
/-- Behind a round. -/
theorem slots_back {ρ0 ρe : List Value} {β0 βe : List Nat} {σe : St} {w : World} (hc : ∀ h T, σ.get h = some T → ∀ l m, T.den (ρ0 ++ l) (β0 ++ m) = T.den ρ0 β0) (hρ : ρ0 <+: ρe) (hβ : β0 <+: βe) (hM : M w0 σe ρe βe a w) :
    ∀ {hs : List HSlot} {n : Nat} {l : List At} {rest : List Value}, HOk σ n hs → backS σe hs = some l → SlotsAre ρ0 β0 a hs (denL ρe βe l ++ rest) ∧ l.length = (initS hs).length
  | [], _, l, _, _, hb => by simp only [backS, Option.some.injEq] at hb; subst hb; exact ⟨trivial, rfl⟩
  | h :: r, n, l, rest, hH, hb => by
    obtain ⟨x1, rfl⟩ := hρ
    obtain ⟨x2, rfl⟩ := hβ
    unfold backS at hb
    obtain ⟨hg, hH⟩ := hH
    split at hb
    · rename_i T l1 hT hl1
      have hat := hM.m0.at hT
      rcases hH with ⟨h1, h2, h3⟩ | ⟨h1, h2, h3⟩
      · rw [if_neg (by rw [h1]; simp)] at hb
        split at hb
        · rename_i e
          injection hb with hb
          subst hb e
          have ih := slots_back (rest := rest) hc ⟨x1, rfl⟩ ⟨x2, rfl⟩ hM h3 hl1
          refine ⟨.inl ⟨h1, fun l m => ?_, ih.1⟩, by simp only [initS, h1, Bool.false_eq_true, if_false, List.nil_append]; exact ih.2⟩
          rw [hat, h2, hc _ _ hg l m, hc _ _ hg x1 x2]
        · cases hb
      · rw [if_pos h1] at hb
        rcases h2 with ⟨y, e1, e2⟩ | ⟨ls, e1, e2⟩
        · rw [e2] at hb
          cases T with
          | one x =>
            simp only [Option.some.injEq] at hb
            subst hb
            have ih := slots_back (rest := rest) hc ⟨x1, rfl⟩ ⟨x2, rfl⟩ hM h3 hl1
            refine ⟨.inr ⟨h1, .inl ⟨y, e1, x.den (ρ0 ++ x1) (β0 ++ x2), by simp [denL], hat⟩, ?_⟩, ?_⟩
            · rw [e1]; simpa [leavesT, denL] using ih.1
            · simp [initS, h1, e1, leavesT, ih.2]
          | ag l => cases hb
          | tup l => cases hb
        · rw [e2] at hb
          cases T with
          | one x => cases hb
          | tup l => cases hb
          | ag lx =>
            simp only at hb
            split at hb
            · rename_i hlen
              injection hb with hb
              subst hb
              have hlen2 : lx.length = ls.length := by rw [hlen]; simp [lfs]
              have ih := slots_back (rest := rest) hc ⟨x1, rfl⟩ ⟨x2, rfl⟩ hM h3 hl1
              refine ⟨.inr ⟨h1, .inr ⟨ls, e1, ?_⟩, ?_⟩, ?_⟩
              · rw [hat]
                simp only [Tm.den, denL, List.map_append, List.append_assoc]
                rw [List.take_left' (by simp [hlen2])]
              · rw [e1]
                simp only [leavesT, denL, List.map_append, List.append_assoc]
                rw [List.drop_left' (by simp [hlen2])]
                exact ih.1
              · simp [initS, h1, e1, leavesT, ih.2, hlen2]
            · cases hb
    · cases hb
/-- What the variables hold, the new leaves' values being given. -/
def BoxesAre (hv : List Nat) (ρ0 : List Value) (β0 : List Nat) (B0 : Nat) (w : World) : Nat → List (TypeId × List At) → List Value → Prop
  | _, [], _ => True
  | b, (ty, cs) :: r, vs => (hasN b hv = true ∧ (∃ g, β0[b]? = some g ∧ Box w g (vs.take cs.length) ty ∧ B0 ≤ g ∧ ∀ v ∈ vs.take cs.length, LeafOk v) ∧ BoxesAre hv ρ0 β0 B0 w (b + 1) r (vs.drop cs.length)) ∨
      (hasN b hv = false ∧ (∃ g us, β0[b]? = some g ∧ (∀ l m, denL (ρ0 ++ l) (β0 ++ m) cs = us) ∧ Box w g us ty ∧ B0 ≤ g ∧ ∀ v ∈ us, LeafOk v) ∧ BoxesAre hv ρ0 β0 B0 w (b + 1) r vs)
theorem boxes_bx {hv : List Nat} {ρ0 V : List Value} {β0 : List Nat} {B0 : Nat} {w : World} : ∀ {bx : List (TypeId × List At)} {b o : Nat}, o + (initB hv b bx).length ≤ V.length → BoxesAre hv ρ0 β0 B0 w b bx (V.drop o) →
    ∀ (i : Nat) (e : TypeId × List At), (hboxes hv (ρ0.length + o) b bx)[i]? = some e → ∃ g vs, β0[b + i]? = some g ∧ (∀ l m, denL (ρ0 ++ V ++ l) (β0 ++ m) e.2 = vs) ∧ Box w g vs e.1 ∧ B0 ≤ g ∧ ∀ v ∈ vs, LeafOk v
  | [], _, _, _, _, i, e, he => by simp [hboxes] at he
  | (ty, cs) :: r, b, o, hlen, hB, i, e, he => by
    simp only [initB, List.length_append] at hlen
    unfold hboxes at he
    rcases hB with ⟨h1, ⟨g, h2, h3, h4, h5⟩, h6⟩ | ⟨h1, ⟨g, us, h2, hd, h3, h4, h5⟩, h6⟩
    · rw [if_pos h1] at he hlen
      cases i with
      | zero =>
        simp only [List.getElem?_cons_zero, Option.some.injEq] at he
        subst he
        exact ⟨g, _, h2, fun l m => lfs_den ρ0 V l (β0 ++ m) cs.length o (by omega), h3, h4, h5⟩
      | succ i =>
        simp only [List.getElem?_cons_succ] at he
        rw [List.drop_drop] at h6
        obtain ⟨g', vs, k1, k2⟩ := boxes_bx (o := o + cs.length) (b := b + 1) (by omega) h6 i e (by rw [← Nat.add_assoc]; exact he)
        exact ⟨g', vs, by rw [show b + (i + 1) = b + 1 + i by omega]; exact k1, k2⟩
    · rw [if_neg (by rw [h1]; simp)] at he hlen
      cases i with
      | zero =>
        simp only [List.getElem?_cons_zero, Option.some.injEq] at he
        subst he
        exact ⟨g, us, h2, fun l m => by rw [List.append_assoc]; exact hd _ _, h3, h4, h5⟩
      | succ i =>
        simp only [List.getElem?_cons_succ] at he
        obtain ⟨g', vs, k1, k2⟩ := boxes_bx (o := o) (b := b + 1) (by simpa using hlen) h6 i e he
        exact ⟨g', vs, by rw [show b + (i + 1) = b + 1 + i by omega]; exact k1, k2⟩
theorem boxes_start {hv : List Nat} {w : World} (hM : M w0 σ ρ β a w) : ∀ {bx : List (TypeId × List At)} {b : Nat} {rest : List Value}, (∀ (i : Nat) e, bx[i]? = some e → σ.bx[b + i]? = some e) → BoxesAre hv ρ β w0.heap.size w b bx (denL ρ β (initB hv b bx) ++ rest)
  | [], _, _, _ => trivial
  | (ty, cs) :: r, b, rest, hb => by
    obtain ⟨g, vs, e1, e2, e3, e4, e5⟩ := hM.m0.bx b _ (by have := hb 0 _ rfl; simpa using this)
    have hr : ∀ (i : Nat) e, r[i]? = some e → σ.bx[b + 1 + i]? = some e := fun i e he => by
      have := hb (i + 1) e (by simpa using he)
      rw [show b + 1 + i = b + (i + 1) by omega]; exact this
    have ed : denL ρ β cs = vs := by have := e2 [] []; simpa using this
    cases h1 : hasN b hv with
    | true =>
      have hl : (denL ρ β cs).length = cs.length := by simp [denL]
      have hsp : denL ρ β (initB hv b ((ty, cs) :: r)) ++ rest = denL ρ β cs ++ (denL ρ β (initB hv (b + 1) r) ++ rest) := by
        simp [initB, h1, denL]
      rw [hsp]
      refine .inl ⟨h1, ⟨g, e1, ?_, e4, ?_⟩, ?_⟩
      · rw [List.take_left' hl, ed]; exact e3
      · rw [List.take_left' hl, ed]; exact e5
      · rw [List.drop_left' hl]; exact boxes_start hM hr
    | false =>
      have hsp : denL ρ β (initB hv b ((ty, cs) :: r)) ++ rest = denL ρ β (initB hv (b + 1) r) ++ rest := by simp [initB, h1, denL]
      rw [hsp]
      exact .inr ⟨h1, ⟨g, vs, e1, e2, e3, e4, e5⟩, boxes_start hM hr⟩
theorem boxes_back {hv : List Nat} {ρ0 ρe : List Value} {β0 βe : List Nat} {σe : St} {w : World} (hρ : ρ0 <+: ρe) (hβ : β0 <+: βe) (hM : M w0 σe ρe βe a w) :
    ∀ {bx be : List (TypeId × List At)} {b n : Nat} {l : List At} {rest : List Value}, (∀ (i : Nat) e, bx[i]? = some e → ∀ l m, denL (ρ0 ++ l) (β0 ++ m) e.2 = denL ρ0 β0 e.2) → b + bx.length ≤ β0.length → (∀ (i : Nat) e, be[i]? = some e → σe.bx[b + i]? = some e) →
      backB hv b (hboxes hv n b bx) be = some l → BoxesAre hv ρ0 β0 w0.heap.size w b bx (denL ρe βe l ++ rest) ∧ l.length = (initB hv b bx).length
  | [], _, _, _, l, _, _, _, _, hb => by simp only [hboxes, backB, Option.some.injEq] at hb; subst hb; exact ⟨trivial, rfl⟩
  | (ty, cs) :: r, be, b, n, l, rest, hc, hlen, hbe, hb => by
    have hc' : ∀ (i : Nat) e, r[i]? = some e → ∀ l m, denL (ρ0 ++ l) (β0 ++ m) e.2 = denL ρ0 β0 e.2 := fun i e he => hc (i + 1) e (by simpa using he)
    simp only [List.length_cons] at hlen
    obtain ⟨x1, rfl⟩ := hρ
    obtain ⟨x2, rfl⟩ := hβ
    cases be with
    | nil =>
      unfold hboxes at hb
      split at hb <;> simp [backB] at hb
    | cons e r' =>
      have hr : ∀ (i : Nat) e, r'[i]? = some e → σe.bx[b + 1 + i]? = some e := fun i e he => by
        have := hbe (i + 1) e (by simpa using he)
        rw [show b + 1 + i = b + (i + 1) by omega]; exact this
      obtain ⟨g, vs, e1, e2, e3, e4, e5⟩ := hM.m0.bx b e (by have := hbe 0 _ rfl; simpa using this)
      rw [List.getElem?_append_left (by omega)] at e1
      have ed : denL (ρ0 ++ x1) (β0 ++ x2) e.2 = vs := by have := e2 [] []; simpa using this
      cases h1 : hasN b hv with
      | true =>
        simp only [hboxes, h1, if_true, backB] at hb
        split at hb
        · rename_i l1 hl1
          split at hb
          · rename_i hty
            obtain ⟨rfl, hlc⟩ := hty
            injection hb with hb
            subst hb
            have hlc2 : e.2.length = cs.length := by rw [← hlc]; simp [lfs]
            have ih := boxes_back (rest := rest) ⟨x1, rfl⟩ ⟨x2, rfl⟩ hM hc' (by omega) hr hl1
            have hl : (denL (ρ0 ++ x1) (β0 ++ x2) e.2).length = cs.length := by simp [denL, hlc2]
            have hsp : denL (ρ0 ++ x1) (β0 ++ x2) (e.2 ++ l1) ++ rest = denL (ρ0 ++ x1) (β0 ++ x2) e.2 ++ (denL (ρ0 ++ x1) (β0 ++ x2) l1 ++ rest) := by simp [denL]
            rw [hsp]
            refine ⟨.inl ⟨h1, ⟨g, e1, ?_, e4, ?_⟩, ?_⟩, by simp [initB, h1, ih.2, hlc2]⟩
            · rw [List.take_left' hl, ed]; exact e3
            · rw [List.take_left' hl, ed]; exact e5
            · rw [List.drop_left' hl]; exact ih.1
          · cases hb
        · cases hb
      | false =>
        simp only [hboxes, h1, Bool.false_eq_true, if_false, backB] at hb
        split at hb
        · rename_i l1 hl1
          split at hb
          · rename_i he
            injection hb with hb
            subst hb he
            have ih := boxes_back (rest := rest) ⟨x1, rfl⟩ ⟨x2, rfl⟩ hM hc' (by omega) hr hl1
            refine ⟨.inr ⟨h1, ⟨g, vs, e1, fun l m => ?_, e3, e4, e5⟩, ih.1⟩, by simp [initB, h1, ih.2]⟩
            have hcc := hc 0 _ rfl
            rw [hcc l m, ← hcc x1 x2]
            exact ed
          · cases hb
        · cases hb
theorem get_some {σ : St} {t : Nat} {T : Tm} (h : σ.get t = some T) : lookN t σ.tm = some (some T) := by
  unfold St.get at h
  split at h
  · rename_i x hx; rw [hx, h]
  · cases h
/-- The state at the head holds. -/
theorem head_M {hv : List Nat} {hs : List HSlot} {ρ0 V : List Value} {β0 : List Nat} {w : World} (hn : ρ0.length = σ.n) (hnb : β0.length = σ.bx.length) (hinj : ∀ b b' g : Nat, β0[b]? = some g → β0[b']? = some g → b = b') (hle : BelowF w0 w) (hdf : DfPin w0 σ.pin a) (hsz : a.tmps.size = σ.size)
    (hkb : ∀ j b, lookN j σ.kb = some b → ∀ l : List Value, (ρ0 ++ l).getD j undef = .bool b) (hH : HOk σ σ.n hs) (hS : SlotsAre ρ0 β0 a hs V) (hB : BoxesAre hv ρ0 β0 w0.heap.size w 0 σ.bx (V.drop (initS hs).length)) (hV : V.length = (initS hs).length + (initB hv 0 σ.bx).length) :
    M w0 (headSt σ hs (hboxes hv (σ.n + (initS hs).length) 0 σ.bx) V.length) (ρ0 ++ V) β0 a w := by
  refine ⟨⟨hsz, fun t T hT => ?_, fun b e he => ?_, fun j b hj l => ?_⟩, hinj, ?_, ?_, hle, hdf⟩
  · refine slots_tm (o := 0) (by omega) (by rw [Nat.add_zero, hn]; exact hH) hS t T ?_
    exact get_some hT
  · have h1 := boxes_bx (ρ0 := ρ0) (V := V) (o := (initS hs).length) (b := 0) (bx := σ.bx) (by omega) hB b e (by rw [hn]; exact he)
    simpa using h1
  · rw [List.append_assoc]; exact hkb j b hj _
  · have hbl : ∀ (bx : List (TypeId × List At)) (n b : Nat), (hboxes hv n b bx).length = bx.length := by
      intro bx
      induction bx with
      | nil => intro n b; rfl
      | cons x r ih => obtain ⟨ty, cs⟩ := x; intro n b; unfold hboxes; split <;> simp [ih]
    simp only [headSt, hbl]; exact hnb
  · simp [headSt, hn]
theorem M.const {w : World} (hM : M w0 σ ρ β a w) (t : Nat) (T : Tm) (h : σ.get t = some T) (l : List Value) (m : List Nat) : T.den (ρ ++ l) (β ++ m) = T.den ρ β := by
  have h1 := hM.m0.tm t T h l m
  have h2 := hM.m0.at h
  rw [h2] at h1
  injection h1 with h1
  exact h1.symm
theorem Good.up {ρp ρq : List Value} {βp βq : List Nat} {Wp Wq : OW} {Bk : Back} (h1 : ρp <+: ρq) (h2 : βp <+: βq) (h3 : Lf w0 Wp Wq) {w : World} (h : Good P w0 R Pn Bk (Pre ρq βq) Wq K a w) : Good P w0 R Pn Bk (Pre ρp βp) Wp K a w := by
  obtain ⟨ow, σ', t', ρ', β', e0, e1, e2, e3, e4, e5, e6⟩ := h
  exact ⟨ow, σ', t', ρ', β', e0, e1, ⟨h1.trans e2.1, h2.trans e2.2⟩, h3.trans e3, e4, e5, e6⟩
theorem exC_sound (hm : P.follows .mixedOrders = true) (fn : Func) (hv es : List Nat) : ∀ (c : Code) (d : Nat) (Q : Exit → Act → World → Prop) (K : St → Option Tree) (B : List (Nat × (St → Option Tree))) (Bk : Back) (ρp : List Value) (βp : List Nat) (W : OW) (σ : St) (ρ : List Value) (β : List Nat) (a : Act) (w : OW) (t : Tree),
    (∀ c a w, DfOk w0 a → Pn c w → BelowF w0 w → Q (.panic c) a w) → (∀ c d v a w, (∀ t, d = some t → ∀ q ∈ w0.pn, q.1 ≠ t) → Q (.panic c) (a.put d v) w → Q (.panic c) a w) →
    (∀ Bk' : Back, (∀ k, k < d → Bk' k = Bk k) → ∀ a w, Good P w0 R Pn Bk' (Pre ρp βp) W K a w → Q .normal a w) →
    (∀ id Kb, B.lookup id = some Kb → ∀ Bk' : Back, (∀ k, k < d → Bk' k = Bk k) → ∀ a w, Good P w0 R Pn Bk' (Pre ρp βp) W Kb a w → Q (.exit id) a w) →
    (∀ Bk' : Back, (∀ k, k < d → Bk' k = Bk k) → ∀ a w, Good P w0 R Pn Bk' (Pre ρp βp) W (retK P fn) a w → Q .ret a w) →
    M w0 σ ρ β a w.toWorld → Ow w0 β w → Lf w0 W w → Pre ρp βp σ ρ β → exC P fn hv es d c σ K B = some t → satB P w0 R Pn Bk t ρ w → c.wp P Q a w.toWorld
  | .skip, d, Q, K, B, Bk, ρp, βp, W, σ, ρ, β, a, w, t, _, _, hK, _, _, hM, hO, hW, hx, ht, hs => wp_skip (hK Bk (fun _ _ => rfl) a w.toWorld ⟨w, σ, t, ρ, β, rfl, ht, hx, hW, hO, hM, hs⟩)
  | .region id ops false, d, Q, K, B, Bk, ρp, βp, W, σ, ρ, β, a, w, t, hQ, _, hK, _, _, hM, hO, hW, hx, ht, hs => wp_region_list (exL_sound (closed_pre _ _) hQ (hK Bk fun _ _ => rfl) ops.toList σ ρ β a w t hM hO hW hx ht hs)
  | .region id ops true, d, Q, K, B, Bk, ρp, βp, W, σ, ρ, β, a, w, t, hQ, hPf, hK, _, _, hM, hO, hW, hx, ht, hs => by
    simp only [exC, forceL_eq] at ht
    split at ht
    · rename_i hsel
      exact exDraw_sound (closed_pre _ _) hm hsel hQ hPf (hK Bk fun _ _ => rfl) hM hO hW hx ht hs
    · cases ht
  | .seq x y, d, Q, K, B, Bk, ρp, βp, W, σ, ρ, β, a, w, t, hQ, hPf, hK, hB, hR, hM, hO, hW, hx, ht, hs => by
    refine wp_seq (exC_sound hm fn hv es x d _ (fun σ' => exC P fn hv es d y σ' K B) B Bk ρp βp W σ ρ β a w t hQ hPf ?_ hB hR hM hO hW hx ht hs)
    rintro Bk' hBk a' w' ⟨ow, σ', t', ρ', β', rfl, e1, e2, e3, e4, e5, e6⟩
    exact exC_sound hm fn hv es y d Q K B Bk' ρp βp W σ' ρ' β' a' ow t' hQ hPf (fun Bk2 h2 => hK Bk2 fun k hk => (h2 k hk).trans (hBk k hk)) (fun id Kb hl Bk2 h2 => hB id Kb hl Bk2 fun k hk => (h2 k hk).trans (hBk k hk)) (fun Bk2 h2 => hR Bk2 fun k hk => (h2 k hk).trans (hBk k hk)) e5 e4 e3 e2 e1 e6
  | .cond c x y, d, Q, K, B, Bk, ρp, βp, W, σ, ρ, β, a, w, t, hQ, hPf, hK, hB, hR, hM, hO, hW, hx, ht, hs => by
    simp only [exC, force_eq] at ht
    split at ht
    · rename_i z hz
      have hev := hM.m0.evalAt hz
      split at ht
      · rename_i b hb
        have hzb := hM.m0.boolOf hb
        refine wp_cond (t := b) (hev.trans hzb) ?_
        cases b with
        | true => exact exC_sound hm fn hv es x d Q K B Bk ρp βp W σ ρ β a w t hQ hPf hK hB hR hM hO hW hx ht hs
        | false => exact exC_sound hm fn hv es y d Q K B Bk ρp βp W σ ρ β a w t hQ hPf hK hB hR hM hO hW hx ht hs
      · split at ht
        · rename_i hnp
          obtain ⟨b, hb, k1, k2⟩ := ite2_sat ht hs
          rw [At.den_noP hnp ρ [] β] at hb
          refine wp_cond (t := b) (hev.trans hb) ?_
          have hext : ∀ l m, z.den (ρ ++ l) (β ++ m) = .bool b := by
            unfold St.evAt at hz
            obtain ⟨T, hT, hz⟩ := Option.bind_eq_some_iff.1 hz
            have hT2 := fun l m => (hM.m0.ext l m).eval hT
            have hTz : T = .one z := by cases T <;> simp only [asAt, Option.some.injEq, reduceCtorEq] at hz; rw [hz]
            subst hTz
            intro l m
            have h5 := (hT2 l m).symm.trans hev
            simp only [Tm.den] at h5
            rw [h5]; exact hb
          cases b with
          | true =>
            obtain ⟨t1, h1, hs1⟩ := k1 rfl
            exact exC_sound hm fn hv es x d Q K B Bk ρp βp W _ ρ β a w t1 hQ hPf hK hB hR (hM.know hext) hO hW hx h1 hs1
          | false =>
            obtain ⟨t1, h1, hs1⟩ := k2 rfl
            exact exC_sound hm fn hv es y d Q K B Bk ρp βp W _ ρ β a w t1 hQ hPf hK hB hR (hM.know hext) hO hW hx h1 hs1
        · cases ht
    · cases ht
  | .block id b, d, Q, K, B, Bk, ρp, βp, W, σ, ρ, β, a, w, t, hQ, hPf, hK, hB, hR, hM, hO, hW, hx, ht, hs => by
    refine wp_block (exC_sound hm fn hv es b d (Exit.inBlock id Q) K ((id, K) :: B) Bk ρp βp W σ ρ β a w t hQ hPf hK ?_ hR hM hO hW hx ht hs)
    intro id' Kb hl Bk' hBk a' w' hG
    simp only [List.lookup] at hl
    simp only [Exit.inBlock]
    split at hl
    · rename_i e
      injection hl with hl
      subst hl
      rw [if_pos (by simpa using e)]
      exact hK Bk' hBk a' w' hG
    · rename_i e
      rw [if_neg (by simpa using e)]
      exact hB id' Kb hl Bk' hBk a' w' hG
  | .exit id, d, Q, K, B, Bk, ρp, βp, W, σ, ρ, β, a, w, t, _, _, _, hB, _, hM, hO, hW, hx, ht, hs => by
    simp only [exC] at ht
    split at ht
    · rename_i Kb hl
      exact wp_exit (hB id Kb hl Bk (fun _ _ => rfl) a w.toWorld ⟨w, σ, t, ρ, β, rfl, ht, hx, hW, hO, hM, hs⟩)
    · cases ht
  | .ret, d, Q, K, B, Bk, ρp, βp, W, σ, ρ, β, a, w, t, _, _, _, _, hR, hM, hO, hW, hx, ht, hs => wp_ret (hR Bk (fun _ _ => rfl) a w.toWorld ⟨w, σ, t, ρ, β, rfl, ht, hx, hW, hO, hM, hs⟩)
  | .scope c, d, Q, K, B, Bk, ρp, βp, W, σ, ρ, β, a, w, t, hQ, hPf, hK, hB, hR, hM, hO, hW, hx, ht, hs =>
    wp_scope_straight (exC_sound hm fn hv es c d (Exit.noGoto Q) K B Bk ρp βp W σ ρ β a w t hQ hPf hK hB hR hM hO hW hx ht hs)
  | .label l, d, Q, K, B, Bk, ρp, βp, W, σ, ρ, β, a, w, t, _, _, hK, _, _, hM, hO, hW, hx, ht, hs => wp_label (hK Bk (fun _ _ => rfl) a w.toWorld ⟨w, σ, t, ρ, β, rfl, ht, hx, hW, hO, hM, hs⟩)
  | .loop c, d, Q, K, B, Bk, ρp, βp, W, σ, ρ, β, a, w, t, hQ, hPf, hK, hB, hR, hM, hO, hW, hx, ht, hs => by
    simp only [exC, forceH_eq, forceL_eq, forceN_eq, forceB_eq, force_eq] at ht
    split at ht
    · rename_i hnp
      obtain ⟨body, hbody, rfl⟩ := Option.map_eq_some_iff.1 ht
      have hH := hslots_ok σ (dstsC c) σ.tm σ.n []
      generalize hslots σ (dstsC c) σ.n [] σ.tm = hsl at *
      obtain ⟨I, hI1, hI2⟩ := hs
      rw [denL_ext (β := β) hnp] at hI1
      have hsp : denL ρ β (initS hsl ++ initB hv 0 σ.bx) = denL ρ β (initS hsl) ++ denL ρ β (initB hv 0 σ.bx) := by simp [denL]
      have hlr := Le.refl hO.wf hM.le
      obtain ⟨n0, hn0⟩ := hI1 w hlr
      have hcT := hM.const
      have hcB : ∀ (i : Nat) e, σ.bx[i]? = some e → ∀ l m, denL (ρ ++ l) (β ++ m) e.2 = denL ρ β e.2 := fun i e he l m => by
        obtain ⟨g, vs, _, e2, _⟩ := hM.m0.bx i e he
        rw [e2 l m]
        have := e2 [] []
        simpa using this.symm
      refine wp_loop_ghost (fun n a' w' => ∃ (ow : OW) (vals : List Value), ow.toWorld = w' ∧ vals.length = (initS hsl ++ initB hv 0 σ.bx).length ∧ M w0 (headSt σ hsl (hboxes hv (σ.n + (initS hsl).length) 0 σ.bx) vals.length) (ρ ++ vals) β a' w' ∧ Ow w0 β ow ∧ Lf w0 w ow ∧ I n vals ow) n0 ?_ ?_
      · refine ⟨w, _, rfl, by simp [denL], head_M hM.nn hM.nb hM.inj hM.le hM.df hM.m0.sz hM.m0.kb hH ?_ ?_ (by simp [denL]), hO, hlr.toLf, hn0⟩
        · rw [hsp]; exact slots_start hM hH
        · rw [hsp, List.drop_left' (by simp [denL])]
          have := boxes_start (hv := hv) (bx := σ.bx) (b := 0) (rest := []) hM (fun i e he => by rw [Nat.zero_add]; exact he)
          simpa using this
      · rintro n a' w' ⟨ow, vals, rfl, hlen, hM', hO', hL', hI⟩
        have hsb := hI2 n vals ow hlen hL' hI
        rw [← hlen] at hbody
        refine exC_sound hm fn hv es c (d + 1) _ (backK hv d hsl (hboxes hv (σ.n + (initS hsl).length) 0 σ.bx) vals.length σ.size) B _ ρ β w _ (ρ ++ vals) β a' ow body ?_ ?_ ?_ ?_ ?_ hM' hO' hL' ⟨List.prefix_append _ _, List.prefix_refl _⟩ hbody hsb
        · exact hQ
        · exact hPf
        · rintro Bk' hBk a2 w2 ⟨ow2, σe, te, ρe, βe, rfl, hback, hpre, hLe, hOe, hMe, hse⟩
          unfold backK at hback
          split at hback
          · rename_i l l' hl hl'
            split at hback
            · rename_i hc2
              obtain ⟨hnp2, hlen2, hsz2⟩ := hc2
              injection hback with hback
              subst hback
              have h1 := hse ow2 (Le.refl hOe.wf hMe.le)
              rw [hBk d (by omega)] at h1
              simp only [Back.set, if_true] at h1
              rw [denL_ext (β := βe) hnp2] at h1
              obtain ⟨n', hn', hI'⟩ := h1
              have hspe : denL ρe βe (l ++ l') = denL ρe βe l ++ denL ρe βe l' := by simp [denL]
              have hSb := slots_back (rest := denL ρe βe l') hcT hpre.1 hpre.2 hMe hH hl
              have hBb := boxes_back (hv := hv) (rest := []) (b := 0) (bx := σ.bx) (be := σe.bx) hpre.1 hpre.2 hMe hcB (by rw [hM.nb]; omega) (fun i e he => by rw [Nat.zero_add]; exact he) hl'
              rw [List.append_nil] at hBb
              refine ⟨n', hn', ow2, _, rfl, ?_, head_M hM.nn hM.nb hM.inj hMe.le ⟨hMe.df.1, fun q hq => ⟨(hM.df.2 q hq).1, (hMe.df.2 q hq).2⟩⟩ ?_ hM.m0.kb hH ?_ ?_ ?_, ⟨fun g hg => hOe.own g ?_, hOe.wf⟩, hLe, hI'⟩
              · simp only [denL, List.length_map]; rw [hlen2, hlen]
              · exact hMe.m0.sz.trans hsz2
              · rw [hspe]; exact hSb.1
              · rw [hspe, List.drop_left' (by simp [denL, hSb.2])]; exact hBb.1
              · simp only [denL, List.length_map]; rw [hlen2, hlen]; simp
              · obtain ⟨x, hx2⟩ := hpre.2
                rw [← hx2]; exact List.mem_append_left _ hg
            · cases hback
          · cases hback
        · intro id Kb hl Bk' hBk a2 w2 hG
          exact hB id Kb hl Bk' (fun k hk => by rw [hBk k (by omega)]; simp only [Back.set]; rw [if_neg (by omega)]) a2 w2 (hG.up hx.1 hx.2 hW)
        · intro Bk' hBk a2 w2 hG
          exact hR Bk' (fun k hk => by rw [hBk k (by omega)]; simp only [Back.set]; rw [if_neg (by omega)]) a2 w2 (hG.up hx.1 hx.2 hW)
    · cases ht
  | .rangeFunc _ _ _ _, _, _, _, _, _, _, _, _, _, _, _, _, _, _, _, _, _, _, _, _, _, _, _, ht, _ => by simp [exC] at ht
  | .goto _, _, _, _, _, _, _, _, _, _, _, _, _, _, _, _, _, _, _, _, _, _, _, _, ht, _ => by simp [exC] at ht
  | .refuse _, _, _, _, _, _, _, _, _, _, _, _, _, _, _, _, _, _, _, _, _, _, _, _, ht, _ => by simp [exC] at ht
theorem lookN_append {α : Type} (t : Nat) : ∀ l l' : List (Nat × α), lookN t (l ++ l') = match lookN t l with | some x => some x | none => lookN t l'
  | [], _ => rfl
  | (k, x) :: r, l' => by
    simp only [List.cons_append, lookN]
    split
    · rfl
    · exact lookN_append t r l'
theorem lookN_mem {α : Type} {t : Nat} : ∀ {l : List (Nat × α)} {x : α}, lookN t l = some x → (t, x) ∈ l
  | (k, y) :: r, x, h => by
    simp only [lookN] at h
    split at h
    · rename_i e; injection h with h; subst e h; exact List.mem_cons_self ..
    · exact List.mem_cons_of_mem _ (lookN_mem h)
theorem slots_ok {xs : Array Value} {cs : List (Bool × List At)} (hc : ∀ (j : Nat) (c : Bool × List At), cs[j]? = some c → ∀ l m, xs[j]? = some ((compT' c).den (ρ ++ l) (β ++ m))) : ∀ (r : List (Bool × List At)) (k : Nat), (∀ j : Nat, r[j]? = cs[k + j]?) →
    ∀ (t : Nat) (T : Tm), (match lookN t (slots k r) with | some x => x | none => none) = some T → ∀ l m, xs[t]? = some (T.den (ρ ++ l) (β ++ m))
  | [], _, _, t, T, h => by simp [slots, lookN] at h
  | c :: r, k, hr, t, T, h => by
    by_cases e : t = k
    · subst e
      simp only [slots, lookN, if_true, Option.some.injEq] at h
      subst h
      exact hc t c (by have := hr 0; simpa using this.symm)
    · simp only [slots, lookN, if_neg e] at h
      exact slots_ok hc r (k + 1) (fun j => by have := hr (j + 1); simpa [Nat.add_assoc, Nat.add_comm 1 j] using this) t T h
theorem comp'_den {c : Bool × List At} (h : c.1 = false → ∃ x, c.2 = [x]) (ρ : List Value) (β : List Nat) : (compT' c).den ρ β = denC ρ β c := by
  obtain ⟨b, l⟩ := c
  cases b with
  | true => rfl
  | false =>
    obtain ⟨x, hx⟩ := h rfl
    simp only at hx
    subst hx
    rfl
theorem tupT_one : ∀ {ks : List (Bool × Nat)} {n : Nat}, (∀ c ∈ ks, c.1 = false → c.2 = 1) → ∀ c ∈ tupT n ks, c.1 = false → ∃ x, c.2 = [x]
  | [], _, _, c, hc, _ => by cases hc
  | (b, k) :: r, n, h, c, hc, hf => by
    rcases List.mem_cons.1 (show c ∈ (b, lfs n k) :: tupT (n + k) r from hc) with rfl | hc
    · have := h (b, k) (List.mem_cons_self ..) hf
      simp only at this
      subst this
      exact ⟨_, rfl⟩
    · exact tupT_one (fun c hc => h c (List.mem_cons_of_mem _ hc)) c hc hf
theorem ret_post {fn : Func} {ρ : List Value} {a : Act} {w : OW} {σ : St} {β : List Nat} {t : Tree} (ht : retK P fn σ = some t) (hM : M w0 σ ρ β a w.toWorld) (hO : Ow w0 β w) (hs : satB P w0 R Pn Bk t ρ w) : a.defers = w0.df ∧ ∃ v, (results fn a.tmps).run P w.toWorld = .ok v w.toWorld ∧ EndOk w0 R Pn (.returned v) w.toWorld := by
  unfold retK at ht
  obtain ⟨v, hv, ht⟩ := Option.bind_eq_some_iff.1 ht
  split at ht
  · rename_i hn
    injection ht with ht
    subst ht
    refine ⟨hM.df.1, _, retT_ok hM hv, ?_, hM.le⟩
    have h1 := hs w (Le.refl hO.wf hM.le)
    rw [Tm.den_noP hn ρ [] β] at h1
    exact h1
  · cases ht
/-- **A function's call, by its tree.** -/
theorem sx_callsE (hd0 : w0.df = []) (hp0 : w0.pn = []) (hfr : ∀ g ∈ w0.fr, g < w0.heap.size) (hm : P.follows .mixedOrders = true) {f : FuncId} {fx : List (Nat × FuncId)} {hv es : List Nat} {ls : List Value} {shs : List (Bool × Nat)} (ht : treeEs P f fx hv es shs = some t) (hl : ls.length = (shs.map (·.2)).sum) (h1 : ∀ c ∈ shs, c.1 = false → c.2 = 1)
    (hfx : ∀ q ∈ fx, (tupV ls shs)[q.1]? = some (.func (.func q.2) #[] #[])) (hs : sat P w0 R Pn t ls ⟨w0.toWorld, [], w0.fr⟩) : Calls P f (tupV ls shs).toArray w0.toWorld (EndOk w0 R Pn) := by
  unfold treeEs at ht
  split at ht
  · rename_i fn hf
    split at ht
    · rename_i c hb
      simp only [forceL_eq, forceN_eq] at ht
      split at ht
      · rename_i hn
        have hlen : ∀ (vs : List Value) (ks : List (Bool × Nat)), (tupV vs ks).length = ks.length := by
          intro vs ks
          induction ks generalizing vs with
          | nil => rfl
          | cons k r ih => obtain ⟨b, k⟩ := k; simp [tupV, ih]
        have hwf : WF w0 ⟨w0.toWorld, [], w0.fr⟩ := ⟨fun g h => (by cases h), fun g h => ⟨.inl h, hfr g h, fun h => by cases h⟩⟩
        refine calls_of_wp hf hb (exC_sound hm fn hv es c 0 _ (retK P fn) [] (fun _ _ _ => False) [] [] ⟨w0.toWorld, [], w0.fr⟩ ⟨fx.map (fun q => (q.1, some (.one (.fn q.2)))) ++ slots 0 (tupT 0 shs), [], [], (shs.map (·.2)).sum, fn.ntmps, []⟩ ls [] _ ⟨w0.toWorld, [], w0.fr⟩ t ?_ ?_ ?_ ?_ ?_ ?_ ⟨fun g h => (by cases h), hwf⟩ (Le.refl hwf (BelowF.refl _)).toLf ⟨List.nil_prefix, List.nil_prefix⟩ ht hs)
        · intro c a w h1 h2 h3
          have h1 := h1.1
          rw [hd0] at h1
          exact ⟨h1, h2, h3⟩
        · intro c d v a w _ ⟨h1, h2⟩
          exact ⟨by rw [put_defers] at h1; exact h1, h2⟩
        · rintro Bk' _ a w ⟨ow, σ', t', ρ', β', rfl, e1, _, _, e4, e2, e3⟩
          have h9 := ret_post e1 e2 e4 e3
          rw [hd0] at h9
          exact h9
        · intro id Kb hl; cases hl
        · rintro Bk' _ a w ⟨ow, σ', t', ρ', β', rfl, e1, _, _, e4, e2, e3⟩
          have h9 := ret_post e1 e2 e4 e3
          rw [hd0] at h9
          exact h9
        · have htup := fun (l : List Value) (m : List Nat) => tup_den [] ls l m shs 0 (by omega)
          simp only [List.length_nil, Nat.zero_add, List.nil_append, List.drop_zero] at htup
          have hone := tupT_one (n := 0) h1
          refine ⟨⟨?_, ?_, ?_, ?_⟩, ?_, rfl, hl, BelowF.refl _, hd0.symm, fun q hq => by rw [hp0] at hq; cases hq⟩
          · simp [hlen]; omega
          · intro t T hT l m
            simp only [St.get, lookN_append] at hT
            cases hq : lookN t (fx.map fun q => (q.1, some (Tm.one (.fn q.2)))) with
            | some x =>
              rw [hq] at hT
              simp only at hT
              subst hT
              obtain ⟨q, hqm, e⟩ := List.mem_map.1 (lookN_mem hq)
              injection e with e1 e2
              injection e2 with e2
              subst e1 e2
              have h3 := hfx q hqm
              have hj2 : q.1 < (tupV ls shs).length := (List.getElem?_eq_some_iff.1 h3).1
              rw [Array.getElem?_append_left (by simpa using hj2)]
              simpa [Tm.den, At.den] using h3
            | none =>
            rw [hq] at hT
            refine slots_ok (cs := tupT 0 shs) (fun j c hj l m => ?_) (tupT 0 shs) 0 (fun j => by rw [Nat.zero_add]) t T hT l m
            have hmem := List.mem_of_getElem? hj
            rw [comp'_den (hone c hmem), List.nil_append]
            have h3 : (tupV ls shs)[j]? = some (denC (ls ++ l) m c) := by
              rw [← htup l m, List.getElem?_map, hj]
              rfl
            have hj2 : j < (tupV ls shs).length := (List.getElem?_eq_some_iff.1 h3).1
            rw [Array.getElem?_append_left (by simpa using hj2)]
            simpa using h3
          · intro b e he; simp at he
          · intro x b hx; simp [lookN] at hx
          · intro b b' g hg; simp at hg
      · cases ht
    · cases ht
  · cases ht
theorem sx_callsAt {w0 : World} (hm : P.follows .mixedOrders = true) {f : FuncId} {fx : List (Nat × FuncId)} {hv : List Nat} {ls : List Value} {shs : List (Bool × Nat)} (ht : treeAt P f fx hv shs = some t) (hl : ls.length = (shs.map (·.2)).sum) (h1 : ∀ c ∈ shs, c.1 = false → c.2 = 1)
    (hfx : ∀ q ∈ fx, (tupV ls shs)[q.1]? = some (.func (.func q.2) #[] #[])) (hs : sat P (w0 : Fr) R Pn t ls ⟨w0, [], []⟩) : Calls P f (tupV ls shs).toArray w0 (EndOk (w0 : Fr) R Pn) :=
  sx_callsE (w0 := (w0 : Fr)) rfl rfl (fun g h => by cases h) hm ht hl h1 hfx hs
theorem sx_calls {w0 : World} (hm : P.follows .mixedOrders = true) {f : FuncId} {fx : List (Nat × FuncId)} {ls : List Value} {shs : List (Bool × Nat)} (hsh : shsOf P f = some shs) (ht : treeWith P f fx = some t) (hl : ls.length = (shs.map (·.2)).sum) (h1 : ∀ c ∈ shs, c.1 = false → c.2 = 1)
    (hfx : ∀ q ∈ fx, (tupV ls shs)[q.1]? = some (.func (.func q.2) #[] #[])) (hs : sat P (w0 : Fr) R Pn t ls ⟨w0, [], []⟩) : Calls P f (tupV ls shs).toArray w0 (EndOk (w0 : Fr) R Pn) := by
  unfold treeWith at ht
  rw [hsh] at ht
  exact sx_callsAt hm ht hl h1 hfx hs
end
end Sx
end Go.Proofs.Ytpkfjfpknbhekaa
