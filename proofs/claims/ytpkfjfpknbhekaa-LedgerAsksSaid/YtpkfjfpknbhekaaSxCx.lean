/- A symbolic executor for straight-line code, part C: what an operation gives, it gives. A symbolic executor, part D: what is left to show, and one operation's step. A symbolic executor for straight-line code, part E: regions. -/
import Derived.Test.YtpkfjfpknbhekaaSxAx
import Derived.Great.BuildSlice
namespace Go.Proofs.Ytpkfjfpknbhekaa
open Go.RowKit
namespace Sx
section
variable {P : Program} {B0 : Nat} {σ : St} {ρ : List Value} {β : List Nat} {a : Act} {w : World} {o : Oper} {k : List At} {out : Out}
theorem addr_add (g off d : Nat) : (⟨g, off, none⟩ : Addr).add d = ⟨g, off + d, none⟩ := Addr.add_mid g off d
theorem den_ptr {b off g : Nat} (hg : β[b]? = some g) : At.den ρ β (.ptr b off) = .pointer (some ⟨g, off, none⟩) := by
  simp [At.den, hg]
theorem run_call (f : FuncId) (hf : goodF P f = true) (args : Array Value) (w : World) : (callFunc f args).run P w = .ok (.enter f args) w := by
  unfold goodF at hf
  split at hf
  · rename_i fn hfn
    simp only [Bool.and_eq_true, Bool.not_eq_true'] at hf
    have h1 : fn.name ≠ "runtime.NumGoroutine" := by simpa using hf.1
    obtain ⟨c, hb⟩ := Option.isSome_iff_exists.1 hf.2
    simp [callFunc, hfn, h1, hb]
  · cases hf
theorem call_ok (h : M0 B0 σ ρ β a w) {c : Call} {x : Operand} {f : FuncId} (hop : o.op = .call c) (hcal : c.callee = .value x) (hx : σ.evAt x = some (.fn f)) (ho : callOut P σ f c.args.toList = some (k, out)) : OutOk P σ ρ β a o out := by
  unfold callOut at ho
  split at ho
  · rename_i hf
    split at ho
    · rename_i ts sh hts hsh
      split at ho
      · simp only [Option.some.injEq, Prod.mk.injEq] at ho
        obtain ⟨rfl, rfl⟩ := ho
        intro w'
        have hev := h.evals hts
        have hfn : a.eval x = .func (.func f) #[] #[] := h.evalAt hx
        have hargs : c.args.map a.eval = (ts.map (Tm.den ρ β)).toArray := by
          apply Array.toList_inj.1
          rw [Array.toList_map, hev]
        unfold execOp
        simp only [hop, resolve, hcal, hfn, hargs, Deferred.ofValue, Sem.run_bind, Sem.run_pure, Result.andThen_ok, invoke, Array.append_empty, Array.empty_append]
        exact run_call f hf _ w'
      · cases ho
    · cases ho
  · cases ho
theorem callv_ok (h : M0 B0 σ ρ β a w) {c : Call} {x : Operand} {y : At} (hop : o.op = .call c) (hcal : c.callee = .value x) (hx : σ.evAt x = some y) (ho : callvOut P σ y o.type c.args.toList = some (k, out)) : OutOk P σ ρ β a o out := by
  unfold callvOut at ho
  split at ho
  · rename_i ts sh hts hsh
    split at ho
    · simp only [Option.some.injEq, Prod.mk.injEq] at ho
      obtain ⟨rfl, rfl⟩ := ho
      intro f first caps w' hd hf
      have hev := h.evals hts
      have hargs : c.args.map a.eval = (ts.map (Tm.den ρ β)).toArray := by
        apply Array.toList_inj.1
        rw [Array.toList_map, hev]
      unfold execOp
      simp only [hop, resolve, hcal, h.evalAt hx, hd, hargs, Deferred.ofValue, Sem.run_bind, Sem.run_pure, Result.andThen_ok, invoke]
      exact run_call f hf _ w'
    · cases ho
  · cases ho
theorem guard_ok {op : BinOp} {ty : TypeId} {x y : Operand} {u v : Value} (h1 : ∀ cs, u ≠ .agg cs) (h2 : u ≠ .nilIface) (w : World) : (eqGuard op ty x y u v).run P w = .ok () w := by
  cases u <;> first | exact absurd rfl h2 | exact absurd rfl (h1 _) | (cases op <;> rfl)
theorem intBin_ok {op : BinOp} {ty : TypeId} {K : IntKind} {m n : Int} {r : Value} (he : intBin op K m n = some r) (w : World) : (binOp op ty (.int K m) (.int K n)).run P w = .ok r w := by
  unfold intBin at he
  cases op
  case quo =>
    simp only at he
    split at he
    · cases he
    · rename_i h0; injection he with he; subst he; simp [binOp, Op.intDiv, h0]
  case rem =>
    simp only at he
    split at he
    · cases he
    · rename_i h0; injection he with he; subst he; simp [binOp, Op.intDiv, h0]
  case and => injection he with he; subst he; simp [binOp, Op.intBits, bits]
  case or => injection he with he; subst he; simp [binOp, Op.intBits, bits]
  case xor => injection he with he; subst he; simp [binOp, Op.intBits, bits]
  all_goals (simp only [Option.some.injEq, reduceCtorEq] at he; try (subst he; simp [binOp, Op.intArith, Op.intCmp]))
theorem shift_ok {ty : TypeId} {op : BinOp} (hop : op = .shl ∨ op = .shr) {u v r : Value} (he : Prim.ev (if op = .shl then .shl else .shr) [u, v] = some r) (w : World) : (binOp op ty u v).run P w = .ok r w ∧ (∀ cs, u ≠ .agg cs) ∧ u ≠ .nilIface := by
  rcases hop with rfl | rfl
  all_goals
    simp only [reduceCtorEq, if_true, if_false] at he
    unfold Prim.ev at he
    split at he <;> try (simp_all; done)
    rename_i e2
    injection e2 with e2 e3
    injection e3 with e3 e4
    subst e2 e3
    split at he
    · cases he
    · rename_i h0
      injection he with he
      subst he
      exact ⟨by simp [binOp, Op.shift, h0], by simp, by simp⟩
theorem equal_bool {ty : TypeId} (hu : P.underlying ty = some .bool) (m n : Bool) (w : World) : (Op.equal ty (.bool m) (.bool n)).run P w = .ok (m == n) w := run_equalIn_bool' w 9999 ty m n hu
theorem boolBin_ok {op : BinOp} {ty : TypeId} (hu : P.underlying ty = some .bool) {m n : Bool} {r : Value} (he : boolBin op m n = some r) (w : World) : (binOp op ty (.bool m) (.bool n)).run P w = .ok r w := by
  unfold boolBin at he
  cases op <;> simp only [Option.some.injEq, reduceCtorEq] at he <;> subst he
  · show ((do pure (.bool (← Op.equal ty (.bool m) (.bool n))) : Sem Value)).run P w = _
    rw [Sem.run_bind, equal_bool hu]
    rfl
  · show ((do pure (.bool (!(← Op.equal ty (.bool m) (.bool n)))) : Sem Value)).run P w = _
    rw [Sem.run_bind, equal_bool hu]
    rfl
theorem seq_ok {op : BinOp} {ty : TypeId} {ne : Bool} (hop : op = if ne then .neq else .eql) (m n : ByteArray) (w : World) : (binOp op ty (.string m) (.string n)).run P w = .ok (.bool ((m.toList == n.toList) != ne)) w := by
  cases ne <;> simp only [if_true, Bool.false_eq_true, if_false] at hop <;> subst hop
  · rw [Bool.bne_false]; rfl
  · rw [Bool.bne_true]; rfl
theorem bin_ok {p : Prim} {op : BinOp} {ty : TypeId} {x y : Operand} (hs : binP P ty op = some p) {u v r : Value} (he : p.ev [u, v] = some r) (w : World) :
    ((do eqGuard op ty x y u v; binOp op ty u v : Sem Value)).run P w = .ok r w := by
  unfold binP at hs
  split at hs
  · split at hs
    · injection hs with hs
      subst hs
      obtain ⟨h1, h2, h3⟩ := shift_ok (P := P) (ty := ty) (.inl rfl) (by simpa using he) w
      rw [Sem.run_bind, guard_ok h2 h3, Result.andThen_ok]
      exact h1
    · injection hs with hs
      subst hs
      obtain ⟨h1, h2, h3⟩ := shift_ok (P := P) (ty := ty) (.inr rfl) (by simpa using he) w
      rw [Sem.run_bind, guard_ok h2 h3, Result.andThen_ok]
      exact h1
    injection hs with hs
    subst hs
    unfold Prim.ev at he
    split at he <;> try (simp_all; done)
    rename_i e1 e2
    simp only [Prim.bin.injEq] at e1
    subst e1
    injection e2 with e2 e3
    injection e3 with e3 e4
    subst e2 e3
    split at he
    · rename_i ek
      subst ek
      rw [Sem.run_bind, guard_ok (by simp) (by simp), Result.andThen_ok]
      exact intBin_ok he w
    · cases he
  · rename_i hu
    injection hs with hs
    subst hs
    unfold Prim.ev at he
    split at he <;> try (simp_all; done)
    rename_i e1 e2
    simp only [Prim.bbin.injEq] at e1
    subst e1
    injection e2 with e2 e3
    injection e3 with e3 e4
    subst e2 e3
    rw [Sem.run_bind, guard_ok (by simp) (by simp), Result.andThen_ok]
    exact boolBin_ok hu he w
  · have key : ∀ ne, p = .seq ne → (op = if ne then .neq else .eql) → ((do eqGuard op ty x y u v; binOp op ty u v : Sem Value)).run P w = .ok r w := by
      intro ne hp hop
      subst hp
      unfold Prim.ev at he
      split at he <;> try (simp_all; done)
      rename_i e1 e2
      simp only [Prim.seq.injEq] at e1
      subst e1
      injection e2 with e2 e3
      injection e3 with e3 e4
      injection he with he
      subst e2 e3 he
      rw [Sem.run_bind, guard_ok (by simp) (by simp), Result.andThen_ok]
      exact seq_ok hop _ _ w
    split at hs
    · injection hs with hs; exact key false hs.symm rfl
    · injection hs with hs; exact key true hs.symm rfl
    · cases hs
  · cases hs
theorem load_ok {ty : TypeId} {off n : Nat} {row : Bool} {g : Nat} {e : TypeId × List At} (hs : szOf P ty = some n) (hr : rowB P ty = some row) (hB : Box w g (denL ρ β e.2) e.1) (hl : off + n ≤ e.2.length) :
    (row = true → (loadVar ty ⟨g, off, none⟩).run P w = .ok (Tm.den ρ β (.ag ((e.2.drop off).take n))) w) ∧
    (row = false → ∀ y, e.2[off]? = some y → (loadVar ty ⟨g, off, none⟩).run P w = .ok (y.den ρ β) w) := by
  unfold szOf at hs
  unfold rowB at hr
  obtain ⟨d, hd, hr⟩ := Option.map_eq_some_iff.1 hr
  constructor
  · rintro rfl
    have h1 := box_range hB off n
    have h2 := run_loadVar_mid (P := P) w g off ty _ d h1 hd hr (by rw [hs]; simp [denL]; omega)
    rw [h2]
    simp [Tm.den, denL]
  · rintro rfl y hy
    have hagg : (isAgg ty).run P w = .ok false w := by
      unfold isAgg
      rw [Sem.run_bind, run_underlying hd w]
      cases d <;> simp_all
    have hc : w.cell? ⟨g, off, none⟩ = some (y.den ρ β) := by
      rw [hB.get]
      simp [denL, hy]
    simp [loadVar, Sem.run_bind, hagg, hc]
theorem store_ok {ty : TypeId} {off n : Nat} {g : Nat} {vs us : List Value} {t : TypeId} {v : Value} (hs : szOf P ty = some n) (hB : Box w g vs t) (hv : v.cells = us.toArray) (hn : us.length = n) (hl : off + n ≤ vs.length) (h1 : ∀ u ∈ us, u.oneCell' = true) :
    (storeVar ty ⟨g, off, none⟩ v).run P w = .ok () (w.setRow g (vs.take off ++ us ++ vs.drop (off + us.length)).toArray) := by
  have h2 := run_storeCells_at (P := P) g off t us 0 vs.toArray w hB (by simp; omega) h1
  unfold szOf at hs
  cases hi : P.info? ty with
  | none => simp [hi] at hs
  | some i =>
    simp only [hi, Option.map_some, Option.some.injEq] at hs
    simp only [Nat.add_zero] at h2
    simp [storeVar, sizeOf, typeInfo, hi, hv, hs, hn, h2]
theorem run_bound (k : IntKind) {i : Int} {y : Nat} {code : BoundsCode} (w : World) (h : 0 ≤ i ∧ i ≤ (y : Int)) : (Instr.sliceBound (.int k i) y code).run P w = .ok i.toNat w := by
  simp only [Instr.sliceBound, asIntOf, Sem.run_bind, Sem.run_pure, Result.andThen_ok]
  rw [if_pos h]
  rfl
theorem cut_run {t : TypeId} {e : TypeId} {sz : Nat} {A : Option Addr} {n c : Nat} {lo hi : Option Value} {l h' : Int} {r : Value} {w : World} (hu : P.underlying t = some (.slice e)) (hs : (sizeOf e).run P w = .ok sz w)
    (hlo : (lo = none ∧ l = 0) ∨ ∃ k, lo = some (.int k l)) (hhi : (hi = none ∧ h' = n ∧ n ≤ c) ∨ ∃ k, hi = some (.int k h')) (he : cutV sz A c l h' = some r) :
    (Instr.sliceAt t (.slice A n c) lo hi none).run P w = .ok r w := by
  unfold cutV at he
  split at he
  · rename_i hc
    obtain ⟨h1, h2, h3⟩ := hc
    have hb : (Instr.sliceBounds true n c lo hi none).run P w = .ok (l.toNat, h'.toNat, c) w := by
      unfold Instr.sliceBounds
      rcases hlo with ⟨rfl, rfl⟩ | ⟨k, rfl⟩ <;> rcases hhi with ⟨rfl, rfl, hn⟩ | ⟨k2, rfl⟩
      · simp
      · simp [run_bound k2 (y := c) (code := .sliceAcap) w ⟨h2, h3⟩]
      · simp [run_bound k (y := n) (code := .sliceB) w ⟨h1, by simpa using h2⟩]
      · simp [run_bound k2 (y := c) (code := .sliceAcap) w ⟨by omega, h3⟩, run_bound k (y := h'.toNat) (code := .sliceB) w ⟨h1, by omega⟩]
    split at he
    · rename_i hcl
      injection he with he
      subst he
      simp only [Instr.sliceAt, Instr.slice, Sem.run_bind, run_underlying hu, Result.andThen_ok, hb, hs, Sem.run_pure]
      rw [if_pos hcl]
    · rename_i hcl
      obtain ⟨B, hB, rfl⟩ := Option.map_eq_some_iff.1 he
      cases A with
      | none =>
        simp only [moveA, Option.some.injEq] at hB
        subst hB
        simp [Instr.sliceAt, Instr.slice, run_underlying hu, hb, hs]
      | some ad =>
        obtain ⟨g, off, sp⟩ := ad
        cases sp with
        | some s => simp [moveA] at hB
        | none =>
          simp only [moveA, Option.some.injEq] at hB
          subst hB
          simp only [Instr.sliceAt, Instr.slice, Sem.run_bind, run_underlying hu, Result.andThen_ok, hb, hs, Sem.run_pure]
          rw [if_neg hcl]
          simp [addr_add]
  · cases he
theorem slice_ok (h : M0 B0 σ ρ β a w) {t e : TypeId} {x : Operand} {lo hi : Option Operand} {sz : Nat} {u : At} {l r : List At} {r' : Value} {w' : World} (hop : o.op = .slice t x lo hi none) (hu : P.underlying t = some (.slice e)) (hs : (sizeOf e).run P w' = .ok sz w') (hev : a.eval x = u.den ρ β)
    (hlo : optAt σ lo = some l) (hhi : optAt σ hi = some r) (hsome : (lo.isSome || hi.isSome) = true) (he : (Prim.slc sz lo.isSome hi.isSome).ev (denL ρ β (u :: l ++ r)) = some r') : (execOp a.eval o).run P w' = .ok (.value r') w' := by
  have hrun : ∀ A n c (l0 h0 : Int), a.eval x = .slice A n c → ((lo.map a.eval = none ∧ l0 = 0) ∨ ∃ k, lo.map a.eval = some (.int k l0)) → ((hi.map a.eval = none ∧ h0 = n ∧ n ≤ c) ∨ ∃ k, hi.map a.eval = some (.int k h0)) → cutV sz A c l0 h0 = some r' → (execOp a.eval o).run P w' = .ok (.value r') w' := by
    intro A n c l0 h0 hx h1 h2 h3
    have h4 := cut_run (n := n) hu hs h1 h2 h3
    unfold execOp
    simp only [hop, hx]
    rw [Sem.run_bind]
    simp only [Option.map_none] at h4 ⊢
    rw [h4]
    rfl
  cases lo with
  | none =>
    simp only [optAt, Option.some.injEq] at hlo
    subst hlo
    cases hi with
    | none => simp at hsome
    | some hi =>
      simp only [optAt, Option.map_eq_some_iff] at hhi
      obtain ⟨y, hy, rfl⟩ := hhi
      have hy2 := h.evalAt hy
      simp only [denL, Option.isSome_none, Option.isSome_some, List.cons_append, List.nil_append, List.map_cons, List.map_nil] at he
      rw [← hev, ← hy2] at he
      unfold Prim.ev at he
      split at he <;> try (simp_all; done)
  | some lo =>
    simp only [optAt, Option.map_eq_some_iff] at hlo
    obtain ⟨z, hz, rfl⟩ := hlo
    have hz2 := h.evalAt hz
    cases hi with
    | none =>
      simp only [optAt, Option.some.injEq] at hhi
      subst hhi
      simp only [denL, Option.isSome_none, Option.isSome_some, List.append_nil, List.map_cons, List.map_nil] at he
      rw [← hev, ← hz2] at he
      unfold Prim.ev at he
      split at he <;> try (simp_all; done)
      rename_i A n c k l0 e1 e2
      injection e1 with e1
      subst e1
      injection e2 with e2 e3
      injection e3 with e3 _
      refine hrun A n c l0 n e2 (.inr ⟨k, by rw [Option.map_some, e3]⟩) (.inl ⟨rfl, rfl, ?_⟩) he
      unfold cutV at he
      split at he
      · rename_i hc; omega
      · cases he
    | some hi =>
      simp only [optAt, Option.map_eq_some_iff] at hhi
      obtain ⟨y, hy, rfl⟩ := hhi
      have hy2 := h.evalAt hy
      simp only [denL, Option.isSome_some, List.cons_append, List.nil_append, List.map_cons, List.map_nil] at he
      rw [← hev, ← hz2, ← hy2] at he
      unfold Prim.ev at he
      split at he <;> try (simp_all; done)
theorem app_ok (h : M0 B0 σ ρ β a w) {c : Call} {x y : Operand} {t e : TypeId} {sz by' : Nat} {u v : At} (hop : o.op = .call c) (hcal : c.callee = .builtin .append) (hargs : c.args.toList = [x, y]) (hty : c.argTypes.toList = [t, t]) (hinfo : appInfo P t = some (e, sz, by')) (hx : σ.evAt x = some u) (hy : σ.evAt y = some v) :
    OutOk P σ ρ β a o (.app e sz by' u v) := by
  unfold appInfo at hinfo
  split at hinfo
  · rename_i e' hu
    split at hinfo
    · rename_i i zs hi hz
      split at hinfo
      · rename_i hc
        obtain ⟨hc1, hc2, hc3⟩ := hc
        injection hinfo with hinfo
        injection hinfo with h1 h2
        injection h2 with h2 h3
        subst h1 h2 h3
        have hz2 := hz
        unfold zeros at hz
        obtain ⟨i', hi', hz⟩ := Option.bind_eq_some_iff.1 hz
        rw [hi] at hi'
        injection hi' with hi'
        subst hi'
        obtain ⟨z, hz1, hz3⟩ := Option.bind_eq_some_iff.1 hz
        have ez := leavesOf_den ρ β hz3
        refine ⟨t, o.type, i, z, hu, hi, hz1, rfl, rfl, ?_, hc2, ?_, ?_⟩
        · rw [← Array.length_toList, ← ez]; simp [denL, hc1]
        · rw [← ez]; exact chk_ok ρ β hc3 (fun x hx => by cases hx)
        · intro w1 r w2 hr
          have ha : c.args = #[x, y] := by rw [← Array.toList_inj]; exact hargs
          have ht : c.argTypes = #[t, t] := by rw [← Array.toList_inj]; exact hty
          unfold execOp
          simp only [hop, resolve, hcal, ha, ht, invoke, builtin]
          simp [h.evalAt hx, h.evalAt hy, hr]
      · cases hinfo
    · cases hinfo
  · cases hinfo
theorem appk_ok (h : M0 B0 σ ρ β a w) {c : Call} {x y : Operand} {t e : TypeId} {ik : IntKind} {by' : Nat} {u v : At} (hop : o.op = .call c) (hcal : c.callee = .builtin .append) (hargs : c.args.toList = [x, y]) (hty : c.argTypes.toList = [t, t]) (hinfo : appInfoK P t = some (ik, e, by')) (hx : σ.evAt x = some u) (hy : σ.evAt y = some v) :
    OutOk P σ ρ β a o (.appk ik e 1 by' u v) := by
  unfold appInfoK at hinfo
  split at hinfo
  · rename_i e' hu
    split at hinfo
    · rename_i i k hi hz
      split at hinfo
      · rename_i hc
        injection hinfo with hinfo
        injection hinfo with h1 h2
        injection h2 with h2 h3
        subst h1 h2 h3
        unfold zeros at hz
        obtain ⟨i', hi', hz⟩ := Option.bind_eq_some_iff.1 hz
        rw [hi] at hi'
        injection hi' with hi'
        subst hi'
        obtain ⟨z, hz1, hz3⟩ := Option.bind_eq_some_iff.1 hz
        have ez := leavesOf_den ρ β hz3
        refine ⟨t, o.type, i, z, hu, hi, hz1, hc, rfl, ?_, by omega, ?_, ?_⟩
        · rw [← Array.length_toList, ← ez]; simp [denL]
        · rw [← ez]
          intro v hv
          simp only [denL, List.map_cons, List.map_nil, List.mem_singleton, At.den] at hv
          subst hv
          exact ⟨rfl, fun K n e => by injection e with e1 e2; exact e1.symm⟩
        · intro w1 r w2 hr
          have ha : c.args = #[x, y] := by rw [← Array.toList_inj]; exact hargs
          have ht : c.argTypes = #[t, t] := by rw [← Array.toList_inj]; exact hty
          unfold execOp
          simp only [hop, resolve, hcal, ha, ht, invoke, builtin]
          simp [h.evalAt hx, h.evalAt hy, hr]
      · cases hinfo
    · cases hinfo
  · cases hinfo
/-- **What an operation gives, it gives.** -/
theorem out_sound (h : M0 B0 σ ρ β a w) (ho : outOf P σ o = some (k, out)) (hk : ∀ x ∈ k, LeafOk (x.den ρ β)) : OutOk P σ ρ β a o out := by
  unfold outOf at ho
  cases hop : o.op <;> simp only [hop] at ho <;> try (cases ho; done)
  case move x =>
    obtain ⟨v, hv, e⟩ := Option.map_eq_some_iff.1 ho
    cases e
    intro w'
    unfold execOp
    simp only [hop, h.eval hv]
    rfl
  case assign x =>
    obtain ⟨v, hv, e⟩ := Option.map_eq_some_iff.1 ho
    cases e
    intro w'
    unfold execOp
    simp only [hop, h.eval hv]
    rfl
  case pick c x y =>
    split at ho
    all_goals first | (cases ho; done) | skip
    all_goals
      rename_i hb
      obtain ⟨z, hz, hb⟩ := Option.bind_eq_some_iff.1 hb
      obtain ⟨v, hv, e⟩ := Option.map_eq_some_iff.1 ho
      cases e
      intro w'
      unfold execOp
      simp only [hop, h.evalAt hz, h.boolOf hb, h.eval hv]
      rfl
  case alloc ty =>
    obtain ⟨cs, hz, ho⟩ := Option.bind_eq_some_iff.1 ho
    obtain ⟨k', hk', e⟩ := Option.map_eq_some_iff.1 ho
    cases e
    refine ⟨chk_ok ρ β hk' hk, fun w' => ?_⟩
    obtain ⟨z, hz1, hz2⟩ := run_zero hz ρ β w'
    unfold execOp
    simp only [hop, Instr.alloc, newVar, newRow, Sem.run_bind, hz1, Result.andThen_ok, hz2, run_newObj_alloc, Sem.run_pure]
  case box ty x =>
    obtain ⟨cs, hz, ho⟩ := Option.bind_eq_some_iff.1 ho
    obtain ⟨T, hT, hl⟩ := Option.bind_eq_some_iff.1 hz
    obtain ⟨k', hk', e⟩ := Option.map_eq_some_iff.1 ho
    cases e
    have hok := chk_ok ρ β hk' hk
    refine ⟨hok, fun w' => ?_⟩
    have hc := leaves_cells hl ρ β (fun v hv => (hok v hv).1)
    unfold execOp
    simp only [hop, Instr.box, newVar, newRow, Sem.run_bind, Result.andThen_ok, h.eval hT, hc, run_newObj_alloc, Sem.run_pure]
  case build ty parts =>
    split at ho
    · rename_i pl cs ps hpl hz hps
      obtain ⟨k', hk', ho⟩ := Option.bind_eq_some_iff.1 ho
      obtain ⟨l, hl, e⟩ := Option.map_eq_some_iff.1 ho
      cases e
      intro w'
      have hb : P.built ty (parts.map fun q => (q.1, a.eval q.2)).toList = some (denL ρ β l).toArray := by
        have hev := evP_ok h hps
        have hfill := fill_ok pl (pl.toArray[·]?) (fun j x hj => by simpa using hj) ρ β ps cs l (denL ρ β cs).toArray hl rfl (flat_ok ρ β hk' hk)
        unfold placesOf at hpl
        unfold zeros at hz
        split at hpl
        · rename_i fs hu
          obtain ⟨it, hi, hz⟩ := Option.bind_eq_some_iff.1 hz
          obtain ⟨z, hz1, hz2⟩ := Option.bind_eq_some_iff.1 hz
          unfold Program.built
          simp only [hi, hu, hz1, hpl]
          rw [Array.toList_map, hev]
          have e := leavesOf_den ρ β hz2
          rw [e] at hfill
          exact hfill
        · cases hpl
      unfold execOp
      simp only [hop]
      rw [Sem.run_bind, run_build w' ty _ _ hb]
      rfl
    · cases ho
  case buildSlice ty len parts =>
    split at ho
    · rename_i e hu
      split at ho
      · rename_i sz zs ps hsz hz hps
        split at ho
        · rename_i hc0
          obtain ⟨rfl, hp0⟩ := hc0
          cases ho
          intro _ w'
          have hpe : parts = #[] := Array.eq_empty_of_size_eq_zero hp0
          subst hpe
          unfold szOf at hsz
          cases hi : P.info? e with
          | none => rw [hi] at hsz; cases hsz
          | some it =>
            unfold execOp
            simp only [hop]
            simp [Instr.buildSlice, Sem.run_bind, run_underlying hu, sizeOf, typeInfo, hi, Instr.fill, newRow, denL]
            exact congrArg (fun c => w'.alloc (.cells c e)) (Array.eq_empty_of_size_eq_zero (by simp))
        · split at ho
          · rename_i hc
            obtain ⟨hc1, hc2, hc3⟩ := hc
            obtain ⟨l, hl, e2⟩ := Option.bind_eq_some_iff.1 ho
            cases e2
            intro hk1 w'
            have hev := evP_ok h hps
            unfold zeros at hz
            obtain ⟨it, hi, hz⟩ := Option.bind_eq_some_iff.1 hz
            obtain ⟨z, hz1, hz2⟩ := Option.bind_eq_some_iff.1 hz
            unfold szOf at hsz
            rw [hi] at hsz
            simp only [Option.map_some, Option.some.injEq] at hsz
            subst hsz
            have ez := leavesOf_den ρ β hz2
            have hzl : z.cells.size = zs.length := by
              have := congrArg List.length ez
              simp [denL] at this
              omega
            have hfill := fill_ok _ (fun i => some (i * it.size, it.size)) (fun j x hj => by
              rw [List.getElem?_map] at hj
              obtain ⟨y, hy, rfl⟩ := Option.map_eq_some_iff.1 hj
              obtain ⟨h1, h2⟩ := List.getElem?_eq_some_iff.1 hy
              rw [List.getElem_range] at h2
              subst h2
              rfl) ρ β ps _ l _ hl rfl (plain_ok ρ β hk1)
            have hcells : (denL ρ β ((List.range (len * it.size)).map fun i => zs.getD (i % it.size) .nil)).toArray = (Array.range (len * it.size)).map (z.cells[· % z.cells.size]!) := by
              apply Array.toList_inj.1
              simp only [denL, List.map_map, Array.toList_map, Array.toList_range]
              refine List.map_congr_left fun i _ => ?_
              have hpos : 0 < it.size := Nat.pos_of_ne_zero (fun e => hc2 (by rw [e, Nat.mul_zero]))
              have hlt : i % it.size < zs.length := by rw [hc3]; exact Nat.mod_lt _ hpos
              simp only [Function.comp]
              rw [hzl, hc3]
              have h1 : (denL ρ β zs)[i % it.size]? = some ((zs.getD (i % it.size) .nil).den ρ β) := by
                simp [denL, List.getD_eq_getElem?_getD, List.getElem?_eq_getElem hlt]
              rw [ez] at h1
              have h2 : z.cells[i % it.size]? = some ((zs.getD (i % it.size) .nil).den ρ β) := by simpa using h1
              rw [getElem!_def, h2]
            rw [hcells] at hfill
            have hr := run_buildSlice (P := P) w' ty e len (parts.map fun q => (q.1, a.eval q.2)) _ it z hu hi hz1 (by omega) hc2 (by rw [Array.toList_map, hev]; exact hfill)
            unfold execOp
            simp only [hop]
            rw [Sem.run_bind, hr]
            rfl
          · cases ho
      · cases ho
    · cases ho
  case load ty x =>
    split at ho
    · rename_i b off n row hx hn hr
      split at ho
      · rename_i t cs hb
        split at ho
        · rename_i hle
          split at ho
          · rename_i hrow
            cases ho
            intro e g w' he hg hB
            rw [hb] at he
            injection he with he
            subst he
            have h1 := (load_ok (ρ := ρ) (β := β) hn hr hB hle).1 hrow
            unfold execOp
            simp only [hop, h.evalAt hx, den_ptr hg, Instr.loadAt, Instr.sureAddr, Sem.run_bind, Sem.run_pure, Result.andThen_ok, h1]
          · rename_i hrow
            split at ho
            · rename_i hn1
              obtain ⟨y, hy, e⟩ := Option.map_eq_some_iff.1 ho
              cases e
              intro e g w' he hg hB
              rw [hb] at he
              injection he with he
              subst he
              have h1 := (load_ok (ρ := ρ) (β := β) hn hr hB hle).2 (by simpa using hrow) y hy
              unfold execOp
              simp only [hop, h.evalAt hx, den_ptr hg, Instr.loadAt, Instr.sureAddr, Sem.run_bind, Sem.run_pure, Result.andThen_ok, h1]
              rfl
            · cases ho
        · cases ho
      · cases ho
    · rename_i j n row hx hn hr
      split at ho
      · cases ho
        intro w' ad v hd hl
        unfold execOp
        simp only [hop, h.evalAt hx, hd, Instr.loadAt, Instr.sureAddr, Sem.run_bind, Sem.run_pure, Result.andThen_ok, hl]
      · split at ho
        · cases ho
          intro w' ad v hd hl
          unfold execOp
          simp only [hop, h.evalAt hx, hd, Instr.loadAt, Instr.sureAddr, Sem.run_bind, Sem.run_pure, Result.andThen_ok, hl]
        · cases ho
    · cases ho
  case store ty x y =>
    split at ho
    · rename_i b off ls n hx hy hn
      obtain ⟨T, hT, hl⟩ := Option.bind_eq_some_iff.1 hy
      split at ho
      · rename_i hlen
        obtain ⟨k', hk', e⟩ := Option.map_eq_some_iff.1 ho
        cases e
        have hok := chk_ok ρ β hk' hk
        refine ⟨hok, fun e g w' he hg hB hle => ?_⟩
        have hc := leaves_cells hl ρ β (fun v hv => (hok v hv).1)
        have h1 := store_ok (P := P) (off := off) hn hB hc (by simp [denL, hlen]) (by simp [denL]; omega) (fun v hv => (hok v hv).1)
        unfold execOp
        simp only [hop, h.evalAt hx, h.eval hT, den_ptr hg, Instr.storeAt, Instr.sureAddr, Sem.run_bind, Sem.run_pure, Result.andThen_ok, h1]
        simp [denL]
      · cases ho
    · rename_i j ls n hx hy hn
      split at ho
      · rename_i T hT
        split at ho
        · cases ho
          intro w1 w2 ad hd hst
          unfold execOp
          simp only [hop, h.evalAt hx, hd, h.eval hT, Instr.storeAt, Instr.sureAddr, Sem.run_bind, Sem.run_pure, Result.andThen_ok, hst]
        · cases ho
      · cases ho
    · cases ho
  case fieldAddr s x f =>
    split at ho
    · rename_i b off d n hx hf
      split at ho
      · cases ho
      · rename_i hn
        cases ho
        intro w'
        unfold fieldAt at hf
        split at hf
        · rename_i fs hu
          obtain ⟨fl, hfl, hf⟩ := Option.bind_eq_some_iff.1 hf
          obtain ⟨n', hn', e⟩ := Option.map_eq_some_iff.1 hf
          cases e
          have hsz : (sizeOf fl.type).run P w' = .ok n w' := by
            unfold szOf at hn'
            obtain ⟨i, hi, rfl⟩ := Option.map_eq_some_iff.1 hn'
            simp [sizeOf, typeInfo, hi]
          unfold execOp
          simp only [hop, h.evalAt hx, At.den, Instr.fieldAt, fieldPlace, Instr.sureAddr, Sem.run_bind, run_underlying hu, Result.andThen_ok, hfl, Sem.run_pure, hsz]
          rw [if_neg hn]
          simp only [Sem.run_pure, Result.andThen_ok, addr_add, Tm.den, At.den]
        · cases hf
    · rename_i j d n hx hf
      split at ho
      · cases ho
      · rename_i hn
        cases ho
        intro r he w'
        simp only [denL, List.map_cons, List.map_nil] at he
        have hev := h.evalAt hx
        generalize At.den ρ β (.lf j) = z at *
        unfold Prim.ev at he
        split at he <;> try (simp_all; done)
        rename_i d' g' off' e1 e2
        injection e2 with e2
        injection he with he
        injection e1 with e1
        subst e2 he e1
        unfold fieldAt at hf
        split at hf
        · rename_i fs hu
          obtain ⟨fl, hfl, hf⟩ := Option.bind_eq_some_iff.1 hf
          obtain ⟨n', hn', e⟩ := Option.map_eq_some_iff.1 hf
          cases e
          have hsz : (sizeOf fl.type).run P w' = .ok n w' := by
            unfold szOf at hn'
            obtain ⟨i, hi, rfl⟩ := Option.map_eq_some_iff.1 hn'
            simp [sizeOf, typeInfo, hi]
          unfold execOp
          simp only [hop, hev, Instr.fieldAt, fieldPlace, Instr.sureAddr, Sem.run_bind, run_underlying hu, Result.andThen_ok, hfl, Sem.run_pure, hsz]
          rw [if_neg hn]
          simp only [Sem.run_pure, Result.andThen_ok, addr_add]
        · cases hf
    · cases ho
  case indexAddr t x y =>
    split at ho
    · rename_i e hu
      split at ho
      · rename_i sz u v hsz hx hy
        cases ho
        intro r he w'
        simp only [denL, List.map_cons, List.map_nil] at he
        have hev := h.evalAt hx
        have hev2 := h.evalAt hy
        generalize u.den ρ β = z at *
        generalize v.den ρ β = z2 at *
        unfold Prim.ev at he
        split at he <;> try (simp_all; done)
        rename_i sz' g' off' n' c' k' i' e1 e2
        injection e2 with e2 e3
        injection e3 with e3 e4
        injection e1 with e1
        subst e2 e3 e1
        split at he
        · rename_i hc
          injection he with he
          subst he
          have hs2 : (sizeOf e).run P w' = .ok sz w' := by
            unfold szOf at hsz
            obtain ⟨i, hi, rfl⟩ := Option.map_eq_some_iff.1 hsz
            simp [sizeOf, typeInfo, hi]
          unfold execOp
          simp only [hop, hev, hev2, Instr.indexAt, asIntOf, Sem.run_bind, run_underlying hu, Result.andThen_ok, Sem.run_pure]
          rw [if_pos hc]
          simp only [Sem.run_bind, hs2, Result.andThen_ok, Sem.run_pure, addr_add]
        · cases he
      · cases ho
    · cases ho
  case slice t x lo hi mx =>
    cases mx with
    | some m => cases ho
    | none =>
    simp only at ho
    split at ho
    · rename_i e hu
      split at ho
      · rename_i sz u l r hsz hx hlo hhi
        split at ho
        · rename_i hsome
          cases ho
          intro r' he w'
          have hs2 : (sizeOf e).run P w' = .ok sz w' := by
            unfold szOf at hsz
            obtain ⟨i, hi, rfl⟩ := Option.map_eq_some_iff.1 hsz
            simp [sizeOf, typeInfo, hi]
          have hev := h.evalAt hx
          exact slice_ok h hop hu hs2 hev hlo hhi hsome he
        · cases ho
      · cases ho
    · cases ho
  case extract x j =>
    split at ho
    · rename_i l hx
      split at ho
      · rename_i ls hj
        cases ho
        intro w'
        unfold execOp
        simp only [hop, h.eval hx, Tm.den, Instr.extract]
        simp [hj, denC]
      · rename_i y hj
        cases ho
        intro w'
        unfold execOp
        simp only [hop, h.eval hx, Tm.den, Instr.extract]
        simp [hj, denC, denL]
      · cases ho
    · cases ho
  case binOp op ty x y ty2 =>
    split at ho
    · rename_i p u v hp hx hy
      cases ho
      intro r he w'
      have h1 := bin_ok (x := x) (y := y) hp he w'
      unfold execOp
      simp only [hop, h.evalAt hx, h.evalAt hy]
      rw [Sem.run_bind, h1]
      rfl
    · cases ho
  case unOp op ty x =>
    cases op <;> simp only at ho <;> try (cases ho; done)
    all_goals
      obtain ⟨u, hu, e⟩ := Option.map_eq_some_iff.1 ho
      cases e
      intro r he w'
      simp only [denL, List.map_cons, List.map_nil] at he
      unfold execOp
      simp only [hop, h.evalAt hu]
      generalize u.den ρ β = z at *
      unfold Prim.ev at he
      split at he <;> try (simp_all; done)
      rename_i e1 e2
      injection e2 with e2
      injection he with he
      subst e2 he
      rfl
  case convert src dst x =>
    split at ho
    · rename_i ks k u hs hd hu
      cases ho
      intro r he w'
      simp only [denL, List.map_cons, List.map_nil] at he
      unfold execOp
      simp only [hop, h.evalAt hu]
      generalize u.den ρ β = z at *
      unfold Prim.ev at he
      split at he <;> try (simp_all; done)
      rename_i k2 k1 n e1 e2
      injection e2 with e2
      injection he with he
      injection e1 with e1
      subst e2 he e1
      simp [convert, run_underlying hs, run_underlying hd, Conv.intToInt]
    · rename_i e u hs hd hu
      split at ho
      · cases ho
        intro w1 v hv
        unfold execOp
        simp only [hop, h.evalAt hu]
        rw [Sem.run_bind, hv]
        rfl
      · cases ho
    · cases ho
  case call c =>
    split at ho
    · rename_i hcal
      split at ho
      · rename_i x ty hargs hty
        split at ho
        · rename_i el u hu hx
          cases ho
          intro r he w'
          simp only [denL, List.map_cons, List.map_nil] at he
          have ha : c.args = #[x] := by rw [← Array.toList_inj]; exact hargs
          have ht : c.argTypes = #[ty] := by rw [← Array.toList_inj]; exact hty
          unfold execOp
          simp only [hop, resolve, hcal, ha, ht]
          have hev := h.evalAt hx
          generalize u.den ρ β = z at *
          unfold Prim.ev at he
          split at he <;> try (simp_all; done)
          rename_i A n cp e1 e2
          injection e2 with e2
          injection he with he
          subst e2 he
          simp [invoke, builtin, Builtin.len_, hev, run_underlying hu, goInt]
        · cases ho
      · cases ho
    · rename_i hcal
      split at ho
      · rename_i x y hargs
        split at ho
        · rename_i u v hx hy
          cases ho
          intro r he w'
          simp only [denL, List.map_cons, List.map_nil] at he
          have ha : c.args = #[x, y] := by rw [← Array.toList_inj]; exact hargs
          unfold execOp
          simp only [hop, resolve, hcal, ha]
          have hev := h.evalAt hx
          have hev2 := h.evalAt hy
          generalize u.den ρ β = z at *
          generalize v.den ρ β = z2 at *
          unfold Prim.ev at he
          split at he <;> try (simp_all; done)
          rename_i e1 e2
          injection e2 with e2 e3
          injection e3 with e3 e4
          injection he with he
          subst e2 e3 he
          simp [invoke, builtin, Builtin.min_, Builtin.min2, hev, hev2]
        · cases ho
      · cases ho
    · rename_i hcal
      split at ho
      · rename_i x y hargs
        split at ho
        · rename_i u v hx hy
          cases ho
          intro r he w'
          simp only [denL, List.map_cons, List.map_nil] at he
          have ha : c.args = #[x, y] := by rw [← Array.toList_inj]; exact hargs
          unfold execOp
          simp only [hop, resolve, hcal, ha]
          have hev := h.evalAt hx
          have hev2 := h.evalAt hy
          generalize u.den ρ β = z at *
          generalize v.den ρ β = z2 at *
          unfold Prim.ev at he
          split at he <;> try (simp_all; done)
          rename_i e1 e2
          injection e2 with e2 e3
          injection e3 with e3 e4
          injection he with he
          subst e2 e3 he
          simp [invoke, builtin, Builtin.max_, Builtin.max2, hev, hev2]
        · cases ho
      · cases ho
    · rename_i hcal
      split at ho
      · rename_i x y t t' hargs hty
        split at ho
        · rename_i htt
          subst htt
          split at ho
          · rename_i e sz by' u v hinfo hx hy
            cases ho
            exact app_ok h hop hcal hargs hty hinfo hx hy
          · rename_i u v hx hy
            split at ho
            · rename_i k e by' hinfo
              cases ho
              exact appk_ok h hop hcal hargs hty hinfo hx hy
            · cases ho
          · cases ho
        · cases ho
      · cases ho
    · rename_i x hcal
      split at ho
      · rename_i f hx
        exact call_ok h hop hcal hx ho
      · rename_i j hx
        exact callv_ok h hop hcal hx ho
      · cases ho
    · cases ho
  case nilCheck x =>
    split at ho
    · rename_i b off hx
      cases ho
      intro w'
      unfold execOp
      simp only [hop, h.evalAt hx, At.den]
      rfl
    · rename_i j hx
      cases ho
      intro r he w'
      simp only [denL, List.map_cons, List.map_nil] at he
      unfold execOp
      simp only [hop, h.evalAt hx]
      generalize At.den ρ β (.lf j) = z at *
      unfold Prim.ev at he
      split at he <;> try (simp_all; done)
      rename_i e1 e2
      injection e2 with e2
      injection he with he
      subst e2 he
      rfl
    · cases ho
  case makeFunc fn first caps =>
    cases fn with
    | func f =>
      simp only at ho
      split at ho
      · rename_i l c hl hc
        cases ho
        intro r he w'
        have h1 := h.evalAts hl
        have h2 := h.evalAts hc
        simp only [denL, List.map_append] at he h1 h2
        unfold Prim.ev at he
        simp only [Option.some.injEq] at he
        subst he
        have e1 : first.map a.eval = (l.map (At.den ρ β)).toArray := by
          apply Array.toList_inj.1
          rw [Array.toList_map, h1]
        have e2 : caps.map a.eval = (c.map (At.den ρ β)).toArray := by
          apply Array.toList_inj.1
          rw [Array.toList_map, h2]
        unfold execOp
        simp only [hop, Instr.makeFunc, e1, e2, Sem.run_bind, Sem.run_pure, Result.andThen_ok]
        rw [List.take_left' (by simp), List.drop_left' (by simp)]
      · cases ho
    | _ => cases ho
  case makeInterface ty x =>
    split at ho
    · rename_i fs hx hu
      cases ho
      intro r he w'
      simp only [denL, List.map_nil] at he
      unfold Prim.ev at he
      simp only [Option.some.injEq] at he
      subst he
      unfold execOp
      simp only [hop, Instr.makeInterface, Sem.run_bind, run_underlying hu, Result.andThen_ok, h.eval hx, Tm.den, denL, List.map_nil, Sem.run_pure]
    · cases ho
  case panic x =>
    obtain ⟨y, hy, ho⟩ := Option.bind_eq_some_iff.1 ho
    split at ho
    · cases ho
      intro t v w' hd
      unfold execOp
      simp only [hop, h.evalAt hy, hd]
      rfl
    · cases ho
end
end Sx
end Go.Proofs.Ytpkfjfpknbhekaa
namespace Go.Proofs.Ytpkfjfpknbhekaa
open Go.RowKit
namespace Sx
/-- What of a function is left to show. -/
inductive Tree where
  | ret (v : Tm)
  | chk (l : List At) (t : Tree)
  | prim (p : Prim) (args : List At) (t : Tree)
  | call (f : FuncId) (args : List Tm) (sh : Sh) (t : Tree)
  | row (e : TypeId) (cs : List At) (n : Nat) (k : List At) (t : Tree)
  | ite (c : At) (t e : Tree)
  | load (ty : TypeId) (x : At) (sh : Sh) (t : Tree)
  | app (e : TypeId) (sz bytes : Nat) (s x : At) (t : Tree)
  | loadm (ty : TypeId) (x : At) (sh : Sh) (t : Tree)
  | appk (ik : IntKind) (e : TypeId) (sz bytes : Nat) (s x : At) (t : Tree)
  | fst (ty : TypeId) (x : At) (v : Tm) (t : Tree)
  | newf (ty : TypeId) (cs : List At) (t : Tree)
  | callv (x : At) (args : List Tm) (sh : Sh) (t : Tree)
  | pan (x : At)
  | conv (src dst : TypeId) (x : At) (t : Tree)
  | convm (src dst : TypeId) (x : At) (t : Tree)
  | loop (d : Nat) (init : List At) (body : Tree)
  | back (d : Nat) (vals : List At)
  | alt (t t' : Tree)
  | dead
  deriving DecidableEq
/-- A world, the variables that are the call's own, the rows that it builds. -/
structure OW extends World where
  own : List Nat
  bld : List Nat
structure WF (w0 : Fr) (w : OW) : Prop where
  own : ∀ g ∈ w.own, w0.heap.size ≤ g ∧ g < w.heap.size
  bld : ∀ g ∈ w.bld, Fre w0 g ∧ g < w.heap.size ∧ g ∉ w.own
/-- What may be laid into rows that are built. -/
def LeafN (w0 : Fr) (v : Value) : Prop := v.oneCell' = true ∧ ∀ K x, v = .int K x → w0.nk K = true
theorem LeafOk.n {v : Value} (h : LeafOk v) (w0 : Fr) : LeafN w0 v := ⟨h.1, fun K x e => by rw [h.2 K x e]; exact w0.ni⟩
theorem LeafN.ok {v : Value} {W0 : World} (h : LeafN (W0 : Fr) v) : LeafOk v := ⟨h.1, fun K x e => eq_of_beq (show (K == IntKind.i64) = true from h.2 K x e)⟩
/-- A later world: numbers read as before, and what is neither a variable of the call's own nor a row that it builds is untouched. -/
structure Lf (w0 : Fr) (w w' : OW) : Prop where
  rdk : ∀ {K : IntKind} {A : Option Addr} {n c : Nat} {xs : List Nat}, w0.nk K = false → RdN K w.toWorld A n c xs → RdN K w'.toWorld A n c xs
  b : BelowF w0 w'.toWorld
  sz : w.heap.size ≤ w'.heap.size
  keep : ∀ g, g < w.heap.size → g ∉ w.own → g ∉ w.bld → w'.heap[g]? = w.heap[g]?
  own : ∀ g ∈ w.own, g ∈ w'.own
  own' : ∀ g ∈ w'.own, g ∈ w.own ∨ w.heap.size ≤ g
  bld : ∀ g ∈ w.bld, g ∈ w'.bld
  bld' : ∀ g ∈ w'.bld, g ∈ w.bld ∨ w.heap.size ≤ g
  wf : WF w0 w'
/-- The rows that it builds are untouched too. -/
structure Le (w0 : Fr) (w w' : OW) : Prop extends Lf w0 w w' where
  keepB : ∀ g ∈ w.bld, w'.heap[g]? = w.heap[g]?
theorem Lf.rd {w0 : World} {w w' : OW} (h : Lf (w0 : Fr) w w') {K : IntKind} {A : Option Addr} {n c : Nat} {xs : List Nat} (hK : K ≠ .i64) (hr : RdN K w.toWorld A n c xs) : RdN K w'.toWorld A n c xs :=
  h.rdk (by show (K == IntKind.i64) = false; simpa using hK) hr
theorem Lf.trans {w0 : Fr} {w w1 w2 : OW} (h : Lf w0 w w1) (k : Lf w0 w1 w2) : Lf w0 w w2 where
  rdk hK hr := k.rdk hK (h.rdk hK hr)
  b := k.b
  sz := Nat.le_trans h.sz k.sz
  keep g h1 h2 h3 := by
    rw [k.keep g (Nat.lt_of_lt_of_le h1 h.sz) (fun e => (h.own' g e).elim h2 (fun e => absurd h1 (by omega))) (fun e => (h.bld' g e).elim h3 (fun e => absurd h1 (by omega)))]
    exact h.keep g h1 h2 h3
  own g hg := k.own g (h.own g hg)
  own' g hg := (k.own' g hg).elim (h.own' g) (fun e => .inr (Nat.le_trans h.sz e))
  bld g hg := k.bld g (h.bld g hg)
  bld' g hg := (k.bld' g hg).elim (h.bld' g) (fun e => .inr (Nat.le_trans h.sz e))
  wf := k.wf
theorem Le.trans {w0 : Fr} {w w1 w2 : OW} (h : Le w0 w w1) (k : Le w0 w1 w2) : Le w0 w w2 where
  toLf := h.toLf.trans k.toLf
  keepB g hg := by rw [k.keepB g (h.bld g hg), h.keepB g hg]
theorem WF.mono {w0 : Fr} {w : OW} (h : WF w0 w) {w' : World} (hs : w.heap.size ≤ w'.heap.size) : WF w0 ⟨w', w.own, w.bld⟩ :=
  ⟨fun g hg => ⟨(h.own g hg).1, Nat.lt_of_lt_of_le (h.own g hg).2 hs⟩, fun g hg => ⟨(h.bld g hg).1, Nat.lt_of_lt_of_le (h.bld g hg).2.1 hs, (h.bld g hg).2.2⟩⟩
theorem Le.of {w0 : Fr} {w : OW} {w' : World} (hw : WF w0 w) (h : BelowF w0 w.toWorld) (hb : Below w.heap.size w.toWorld w') : Le w0 w ⟨w', w.own, w.bld⟩ where
  rdk _ hr := hr.below hb
  b := h.step hb
  sz := hb.size
  keep g h1 _ _ := hb.block g h1
  own _ h := h
  own' _ h := .inl h
  bld _ h := h
  bld' _ h := .inl h
  wf := hw.mono hb.size
  keepB g hg := hb.block g (hw.bld g hg).2.1
/-- What a call has made may be built upon. -/
theorem Le.ofB {w0 : Fr} {w : OW} {w' : World} (hw : WF w0 w) (h : BelowF w0 w.toWorld) (hb : Below w.heap.size w.toWorld w') {bl : List Nat} (hbl : ∀ g ∈ bl, w.heap.size ≤ g ∧ g < w'.heap.size) : Le w0 w ⟨w', w.own, bl ++ w.bld⟩ := by
  have h1 := Le.of hw h hb
  refine ⟨⟨h1.rdk, h1.b, h1.sz, h1.keep, fun g hg => hg, fun g hg => .inl hg, fun g hg => List.mem_append_right _ hg, fun g hg => ?_, ⟨h1.wf.own, fun g hg => ?_⟩⟩, h1.keepB⟩
  · rcases List.mem_append.1 hg with hg | hg
    · exact .inr (hbl g hg).1
    · exact .inl hg
  · rcases List.mem_append.1 hg with hg | hg
    · refine ⟨.inr (Nat.le_trans h.size (hbl g hg).1), (hbl g hg).2, fun hm => ?_⟩
      have := (hw.own _ hm).2
      have := (hbl g hg).1
      omega
    · exact h1.wf.bld g hg
theorem Le.refl {w0 : Fr} {w : OW} (hw : WF w0 w) (h : BelowF w0 w.toWorld) : Le w0 w w := Le.of hw h (Below.refl _ _)
theorem Le.drew {w0 : Fr} {w : OW} (hw : WF w0 w) (h : BelowF w0 w.toWorld) : Le w0 w ⟨w.drew, w.own, w.bld⟩ := Le.of hw h ((Below.refl _ _).drew)
/-- A new variable of the call's own. -/
theorem Le.new {w0 : Fr} {w : OW} (hw : WF w0 w) (h : BelowF w0 w.toWorld) (o : Obj) : Le w0 w ⟨w.alloc o, w.own ++ [w.heap.size], w.bld⟩ := by
  have hb : Below w.heap.size w.toWorld (w.alloc o) := by go_grown
  have h1 := Le.of hw h hb
  refine ⟨⟨h1.rdk, h1.b, h1.sz, h1.keep, fun g hg => List.mem_append_left _ hg, fun g hg => ?_, fun g hg => hg, fun g hg => .inl hg, ⟨fun g hg => ?_, fun g hg => ?_⟩⟩, h1.keepB⟩
  · rcases List.mem_append.1 hg with hg | hg
    · exact .inl hg
    · exact .inr (by rw [List.mem_singleton.1 hg]; exact Nat.le_refl _)
  · rcases List.mem_append.1 hg with hg | hg
    · exact ⟨(hw.own g hg).1, Nat.lt_of_lt_of_le (hw.own g hg).2 hb.size⟩
    · rw [List.mem_singleton.1 hg]; exact ⟨h.size, by simp⟩
  · obtain ⟨e1, e2, e3⟩ := hw.bld g hg
    refine ⟨e1, Nat.lt_of_lt_of_le e2 hb.size, fun hm => ?_⟩
    rcases List.mem_append.1 hm with hm | hm
    · exact e3 hm
    · have := List.mem_singleton.1 hm; omega
/-- A new block that it will build on. -/
theorem Le.newB {w0 : Fr} {w : OW} (hw : WF w0 w) (h : BelowF w0 w.toWorld) (o : Obj) : Le w0 w ⟨w.alloc o, w.own, w.heap.size :: w.bld⟩ := by
  have hb : Below w.heap.size w.toWorld (w.alloc o) := by go_grown
  have h1 := Le.of hw h hb
  refine ⟨⟨h1.rdk, h1.b, h1.sz, h1.keep, fun g hg => hg, fun g hg => .inl hg, fun g hg => List.mem_cons_of_mem _ hg, fun g hg => ?_, ⟨h1.wf.own, fun g hg => ?_⟩⟩, h1.keepB⟩
  · rcases List.mem_cons.1 hg with rfl | hg
    · exact .inr (Nat.le_refl _)
    · exact .inl hg
  · rcases List.mem_cons.1 hg with rfl | hg
    · exact ⟨.inr h.size, by simp, fun hm => by have := (hw.own _ hm).2; omega⟩
    · exact h1.wf.bld g hg
theorem Le.setRow {w0 : Fr} {w : OW} (hw : WF w0 w) (h : BelowF w0 w.toWorld) {g : Nat} {vs : List Value} {ty : TypeId} (hB : Box w.toWorld g vs ty) (hok : ∀ v ∈ vs, LeafOk v) (hg : g ∈ w.own) (cs : Array Value) : Le w0 w ⟨w.setRow g cs, w.own, w.bld⟩ := by
  have hg0 := (hw.own g hg).1
  refine ⟨⟨fun {K A n c xs} hK hr => ⟨hr.len, hr.cap, hr.max, fun hn => ?_⟩, h.setRow (.inr hg0) _, by simp, fun g' _ hn _ => setRow_other w.toWorld g g' _ (fun e => hn (e ▸ hg)), fun _ h => h, fun _ h => .inl h, fun _ h => h, fun _ h => .inl h, hw.mono (by simp)⟩,
    fun g' hg' => setRow_other w.toWorld g g' _ (fun e => (hw.bld g' hg').2.2 (e ▸ hg))⟩
  obtain ⟨b, off, hA, hb, hc⟩ := hr.at_ hn
  have hne : b ≠ g := by
    rintro rfl
    have h1 := hc 0 hn
    rw [hB.get] at h1
    have h2 := ((hok _ (List.mem_of_getElem? h1)).n w0).2 _ _ rfl
    rw [hK] at h2
    cases h2
  exact ⟨b, off, hA, by simpa using hb, fun k hk => by rw [cell_setRow_other w.toWorld g cs _ hne]; exact hc k hk⟩

/-! Appending to a row that the call builds. -/
/-- A row that the call builds: its cells; all that lies in its block may stand beside numbers. -/
structure OR (w0 : Fr) (e : TypeId) (sz : Nat) (w : OW) (s : Value) (n : Nat) (xs : List Value) : Prop where
  row : w.toWorld.ownsRow w0.lo e sz s n xs
  blk : ∀ g, s.ownBlock = some g → g ∈ w.bld
  ok : ∀ g cur t x, s.ownBlock = some g → w.heap[g]? = some (.cells cur t x) → ∀ u ∈ cur.toList, LeafN w0 u
theorem OR.nil (w0 : Fr) (e : TypeId) (sz : Nat) (w : OW) : OR w0 e sz w (.slice none 0 0) 0 [] := ⟨World.ownsRow_nil _ _ _ _, fun _ h => (by cases h), fun _ _ _ _ h => (by cases h)⟩
theorem OR.le {w0 : Fr} {e : TypeId} {sz : Nat} {w w' : OW} {s : Value} {n : Nat} {xs : List Value} (h : OR w0 e sz w s n xs) (hl : Le w0 w w') : OR w0 e sz w' s n xs := by
  refine ⟨⟨h.row.1, ?_⟩, fun g hg => hl.bld g (h.blk g hg), fun g cur t x hg hc => h.ok g cur t x hg (by rw [← hl.keepB g (h.blk g hg)]; exact hc)⟩
  rcases h.row.2 with hn | ⟨g, cap, cur, rfl, hb, hgg, rest⟩
  · exact .inl hn
  · exact .inr ⟨g, cap, cur, rfl, hb, by rw [hl.keepB g (h.blk g rfl)]; exact hgg, rest⟩
/-- What an append does to the world. -/
structure App (w0 : Fr) (w w' : OW) (s s' : Value) : Prop extends Lf w0 w w' where
  keepB : ∀ g ∈ w.bld, s.ownBlock ≠ some g → w'.heap[g]? = w.heap[g]?
  keepO : ∀ g ∈ w.own, w'.heap[g]? = w.heap[g]?
  ownEq : w'.own = w.own
  blk : s'.ownBlock = s.ownBlock ∨ s'.ownBlock = some w.heap.size
theorem zeroCells_mem {z : Array Value} {k : Nat} {u : Value} (h : u ∈ (Builtin.zeroCells z k).toList) : u ∈ z.toList := by
  unfold Builtin.zeroCells at h
  simp only [Array.toList_map, List.mem_map, Array.toList_range, List.mem_range] at h
  obtain ⟨j, hj, rfl⟩ := h
  have hpos : 0 < z.size := Nat.pos_of_ne_zero fun e => by rw [e] at hj; simp at hj
  have hlt : j % z.size < z.size := Nat.mod_lt _ hpos
  rw [getElem!_pos z _ hlt]
  exact Array.mem_toList_iff.2 (Array.getElem_mem hlt)
theorem run_appS {P : Program} {w0 : Fr} (w : OW) (hw : WF w0 w) (hle : BelowF w0 w.toWorld) (t ty e : TypeId) (i : TypeInfo) (z : Value) (ht : P.underlying t = some (.slice e)) (hi : P.info? e = some i) (hz : i.zero = some z)
    (hzs : z.cells.size = i.size) (_ : 0 < i.size) (hzok : ∀ u ∈ z.cells.toList, LeafN w0 u) (v : Value) (n : Nat) (xs : List Value) (hO : OR w0 e i.size w v n xs)
    (ad : Addr) (m c : Nat) (news : List Value) (hl : news.length = m * i.size) (hnews : ∀ j u, news[j]? = some u → w.cell? (ad.add j) = some u) (hok : ∀ u ∈ news, LeafN w0 u) (h63 : n + m ≤ maxLen) (hbytes : (n + m) * i.bytes ≤ 140737488355328) :
    ∃ v' w', (Builtin.append_ #[t, t] ty #[v, .slice (some ad) m c]).run P w.toWorld = .ok v' w'.toWorld ∧ OR w0 e i.size w' v' (n + m) (xs ++ news) ∧ App w0 w w' v v' := by
  have hsmall : n + m ≤ 9223372036854775807 := by simp only [maxLen] at h63; omega
  have h1c : ∀ u ∈ news, u.oneCell' = true := fun u hu => (hok u hu).1
  have hlen : (xs ++ news).length = (n + m) * i.size := by rw [List.length_append, hO.row.1, hl, Nat.add_mul]
  have hxs : ∀ u ∈ xs, LeafN w0 u := by
    rcases hO.row.2 with ⟨rfl, rfl⟩ | ⟨g, cap, cur, rfl, _, hg, _, _, _, htake⟩
    · have : xs = [] := List.eq_nil_of_length_eq_zero (by simpa using hO.row.1)
      subst this
      intro u hu; cases hu
    · intro u hu
      rw [← htake] at hu
      exact hO.ok g cur e _ rfl hg u (List.mem_of_mem_take hu)
  have grown : ∀ (old : Nat), old < n + m → 
      OR w0 e i.size ⟨w.drew.alloc (.cells (xs.toArray ++ news.toArray ++ Builtin.zeroCells z.cells (grownCap w.toWorld (n + m) old e - (n + m))) e), w.own, w.heap.size :: w.bld⟩
        (.slice (some ⟨w.heap.size, 0, none⟩) (n + m) (grownCap w.toWorld (n + m) old e)) (n + m) (xs ++ news) ∧
      App w0 w ⟨w.drew.alloc (.cells (xs.toArray ++ news.toArray ++ Builtin.zeroCells z.cells (grownCap w.toWorld (n + m) old e - (n + m))) e), w.own, w.heap.size :: w.bld⟩ v (.slice (some ⟨w.heap.size, 0, none⟩) (n + m) (grownCap w.toWorld (n + m) old e)) := by
    intro old ho
    have hge := grownCap_ge w.toWorld (n + m) old e
    have hcm : grownCap w.toWorld (n + m) old e ≤ maxLen := grownCap_le_maxLen w.toWorld (n + m) old e h63
    have hd := Le.drew hw hle
    have hN := Le.newB hd.wf hd.b (.cells (xs.toArray ++ news.toArray ++ Builtin.zeroCells z.cells (grownCap w.toWorld (n + m) old e - (n + m))) e)
    have hA := hd.trans hN
    refine ⟨⟨⟨hlen, .inr ⟨w.heap.size, _, _, rfl, Nat.le_trans w0.hlo hle.size, heap_alloc_new w.drew _, hge, hcm, ?_, ?_⟩⟩, fun g hg => ?_, fun g cur t' x hg hc u hu => ?_⟩, ⟨hA.toLf, fun g hg _ => hA.keepB g hg, fun g hg => ?_, rfl, .inr rfl⟩⟩
    · have h1 := hO.row.1
      simp only [Array.size_append, List.size_toArray, size_zeroCells, hzs, h1, hl, ← Nat.add_mul]
      congr 1
      omega
    · simp only [Array.toList_append, List.append_assoc]
      rw [← List.append_assoc, ← hlen]
      exact List.take_left
    · simp [Value.ownBlock] at hg; subst hg; exact List.mem_cons_self ..
    · simp only [Value.ownBlock, Option.some.injEq] at hg
      subst hg
      have h2 := heap_alloc_new w.drew (.cells (xs.toArray ++ news.toArray ++ Builtin.zeroCells z.cells (grownCap w.toWorld (n + m) old e - (n + m))) e)
      have h3 := h2.symm.trans hc
      injection h3 with h3
      injection h3 with h3
      subst h3
      rw [Array.toList_append, Array.toList_append] at hu
      rcases List.mem_append.1 hu with hu | hu
      · rcases List.mem_append.1 hu with hu | hu
        · exact hxs u hu
        · exact hok u hu
      · exact hzok u (zeroCells_mem hu)
    · exact Below.heap_alloc w.drew _ g (hw.own g hg).2
  rcases hO.row.2 with ⟨rfl, rfl⟩ | ⟨g, cap, cur, rfl, hbg, hg, hnc, hcm, hcs, htake⟩
  · have hx : xs = [] := List.eq_nil_of_length_eq_zero (by simpa using hO.row.1)
    subst hx
    by_cases hm : m = 0
    · subst hm
      have hn : news = [] := List.eq_nil_of_length_eq_zero (by simpa using hl)
      subst hn
      have hr := Le.refl hw hle
      refine ⟨.slice none 0 0, w, ?_, OR.nil _ _ _ _, ⟨hr.toLf, fun g hg _ => rfl, fun g hg => rfl, rfl, .inl rfl⟩⟩
      simp [Builtin.append_, run_underlying ht, sizeOf, typeInfo, hi, Builtin.lenOf, Builtin.firstCells, loadCells, loadCellsFrom]
    · have hr := run_append_nil (P := P) w.toWorld t ty e i z ht hi hz ad m c news hl hnews (by omega) (by omega) (by have hb := hbytes; simp only [Nat.zero_add] at hb; omega)
      have hgr := grown 0 (by omega)
      simp only [Nat.zero_add, List.nil_append, Array.empty_append] at hgr ⊢
      exact ⟨_, _, hr, hgr.1, hgr.2⟩
  · by_cases hroom : n + m ≤ cap
    · have hfit : n * i.size + news.length ≤ cur.size := by rw [hl, hcs, ← Nat.add_mul]; exact Nat.mul_le_mul_right _ hroom
      have hr := run_append_room (P := P) w.toWorld t ty e i ht hi g n cap cur hg ad m c news hl hnews h1c hroom hfit
      have hgb := hO.blk g rfl
      have hgw := hw.bld g hgb
      have hcok := hO.ok g cur e _ rfl hg
      refine ⟨_, ⟨_, w.own, w.bld⟩, hr, ⟨⟨hlen, .inr ⟨g, cap, _, rfl, hbg, setRow_heap w.toWorld g cur _ e _ hg, hroom, hcm, ?_, ?_⟩⟩, fun g' h => ?_, fun g' cur' t' x hg' hc u hu => ?_⟩, ⟨⟨?_, ?_, ?_, ?_, ?_, ?_, ?_, ?_, ?_⟩, ?_, ?_, rfl, .inl rfl⟩⟩
      · simp only [List.size_toArray, List.length_append, List.length_take, List.length_drop, Array.length_toList]
        omega
      · rw [htake, ← hlen]
        exact List.take_left
      · exact hO.blk g' h
      · simp only [Value.ownBlock, Option.some.injEq] at hg'
        subst hg'
        have h3 := (setRow_heap w.toWorld g cur _ e _ hg).symm.trans hc
        injection h3 with h3
        injection h3 with h3
        subst h3
        rcases List.mem_append.1 hu with hu | hu
        · rcases List.mem_append.1 hu with hu | hu
          · exact hcok u (List.mem_of_mem_take hu)
          · exact hok u hu
        · exact hcok u (List.mem_of_mem_drop hu)
      · intro K A n' c' xs' hK hr'
        refine ⟨hr'.len, hr'.cap, hr'.max, fun hn => ?_⟩
        obtain ⟨b, off, hA, hb, hc⟩ := hr'.at_ hn
        have hne : b ≠ g := by
          rintro rfl
          have h1 := hc 0 hn
          rw [cell_of_row w.toWorld b _ cur e (0, 0) hg] at h1
          have h2 := (hcok _ (Array.mem_toList_iff.2 (Array.mem_of_getElem? h1))).2 _ _ rfl
          rw [hK] at h2
          cases h2
        exact ⟨b, off, hA, by simpa using hb, fun k hk => (cell_setRow_other w.toWorld g _ _ hne).trans (hc k hk)⟩
      · exact hle.setRow hgw.1 _
      · simp
      · exact fun g' _ _ hn => setRow_other w.toWorld g g' _ (fun e => hn (e ▸ hgb))
      · exact fun _ h => h
      · exact fun _ h => .inl h
      · exact fun _ h => h
      · exact fun _ h => .inl h
      · exact hw.mono (by simp)
      · exact fun g' _ hn => setRow_other w.toWorld g g' _ (fun e => hn (by simp [Value.ownBlock, e]))
      · exact fun g' hg' => setRow_other w.toWorld g g' _ (fun e => hgw.2.2 (e ▸ hg'))
    · have holds : ∀ j u, xs[j]? = some u → w.cell? ((⟨g, 0, none⟩ : Addr).add j) = some u := hO.row.cells (g := g) rfl
      have hr := run_append_grow (P := P) w.toWorld t ty e i z ht hi hz ⟨g, 0, none⟩ n cap xs hO.row.1 holds ad m c news hl hnews (by omega) (by omega) (growslice_fits (by omega) hbytes)
      have hgr := grown cap (by omega)
      exact ⟨_, _, hr, hgr.1, hgr.2⟩

theorem run_app {P : Program} {w0 : Fr} (w : OW) (hw : WF w0 w) (hle : BelowF w0 w.toWorld) (t ty e : TypeId) (i : TypeInfo) (z : Value) (ht : P.underlying t = some (.slice e)) (hi : P.info? e = some i) (hz : i.zero = some z)
    (hzs : z.cells.size = i.size) (hpos : 0 < i.size) (hzok : ∀ u ∈ z.cells.toList, LeafN w0 u) (v : Value) (n : Nat) (xs : List Value) (hO : OR w0 e i.size w v n xs)
    (A : Option Addr) (m c : Nat) (news : List Value) (hl : news.length = m * i.size) (hnews : (∃ ad, A = some ad ∧ ∀ j u, news[j]? = some u → w.cell? (ad.add j) = some u) ∨ (A = none ∧ m = 0)) (hok : ∀ u ∈ news, LeafN w0 u) (h63 : n + m ≤ maxLen) (hbytes : (n + m) * i.bytes ≤ 140737488355328) :
    ∃ v' w', (Builtin.append_ #[t, t] ty #[v, .slice A m c]).run P w.toWorld = .ok v' w'.toWorld ∧ OR w0 e i.size w' v' (n + m) (xs ++ news) ∧ App w0 w w' v v' := by
  rcases hnews with ⟨ad, rfl, hn⟩ | ⟨rfl, rfl⟩
  · exact run_appS w hw hle t ty e i z ht hi hz hzs hpos hzok v n xs hO ad m c news hl hn hok h63 hbytes
  · have hn : news = [] := List.eq_nil_of_length_eq_zero (by simpa using hl)
    subst hn
    have hr := Le.refl hw hle
    refine ⟨v, w, ?_, by simpa using hO, ⟨hr.toLf, fun g hg _ => rfl, fun g hg => rfl, rfl, .inl rfl⟩⟩
    rcases hO.row.2 with ⟨rfl, rfl⟩ | ⟨g, cap, cur, rfl, hbg, hg, hnc, hcm, hcs, htake⟩
    · simp [Builtin.append_, run_underlying ht, sizeOf, typeInfo, hi, Builtin.lenOf, Builtin.firstCells]
    · simp [Builtin.append_, run_underlying ht, sizeOf, typeInfo, hi, Builtin.lenOf, Builtin.firstCells, storeCells, hnc]
/-- What a call or a store may do: it may write the rows that are built, and leaves the call's own variables. -/
structure Eff (w0 : Fr) (w w' : OW) : Prop extends Lf w0 w w' where
  keepO : ∀ g ∈ w.own, w'.heap[g]? = w.heap[g]?
  ownEq : w'.own = w.own
theorem Eff.ofB {w0 : Fr} {w : OW} {w' : World} (hw : WF w0 w) (h : BelowF w0 w.toWorld) (hb : Below w.heap.size w.toWorld w') {bl : List Nat} (hbl : ∀ g ∈ bl, w.heap.size ≤ g ∧ g < w'.heap.size) : Eff w0 w ⟨w', w.own, bl ++ w.bld⟩ :=
  ⟨(Le.ofB hw h hb hbl).toLf, fun g hg => hb.block g (hw.own g hg).2, rfl⟩
section
variable (P : Program) (w0 : Fr) (R : Value → World → Prop) (Pn : List PanicEntry → World → Prop)
/-- What the way back to a loop's head wants. -/
abbrev Back := Nat → List Value → OW → Prop
def Back.set (Bk : Back) (d : Nat) (p : List Value → OW → Prop) : Back := fun k => if k = d then p else Bk k
/-- What an append wants and gives. -/
def AppOk (e : TypeId) (sz bytes : Nat) (s x : Value) (w : OW) (k : Value → OW → Prop) : Prop :=
  ∃ n xs A m c news, OR w0 e sz w s n xs ∧ x = .slice A m c ∧ news.length = m * sz ∧ ((∃ ad, A = some ad ∧ ∀ j u, news[j]? = some u → w.cell? (ad.add j) = some u) ∨ (A = none ∧ m = 0)) ∧ (∀ u ∈ news, LeafN w0 u) ∧
    n + m ≤ maxLen ∧ (n + m) * bytes ≤ 140737488355328 ∧ ∀ s' w', App w0 w w' s s' → OR w0 e sz w' s' (n + m) (xs ++ news) → k s' w'
/-- A tree holds. -/
def satB (Bk : Back) : Tree → List Value → OW → Prop
  | .ret v, ρ, w => ∀ w', Le w0 w w' → R (v.den ρ []) w'.toWorld
  | .chk l t, ρ, w => (∀ x ∈ l, LeafOk (x.den ρ [])) ∧ satB Bk t ρ w
  | .prim p args t, ρ, w => ∃ v, p.ev (denL ρ [] args) = some v ∧ satB Bk t (ρ ++ [v]) w
  | .call f args sh t, ρ, w => ∀ w', Le w0 w w' → Calls P f (args.map (Tm.den ρ [])).toArray w'.toWorld fun e w'' => match e with
      | .returned x => ∃ l ow, l.length = sh.len ∧ x = sh.val l ∧ ow.toWorld = w'' ∧ Eff w0 w' ow ∧ satB Bk t (ρ ++ l) ow
      | .panicked c => BelowF w0 w'' ∧ Pn c w''
      | .outgrown => False
  | .loadm ty x sh t, ρ, w => ∀ w', Le w0 w w' → ∃ l ad, l.length = sh.len ∧ x.den ρ [] = .pointer (some ad) ∧ (loadVar ty ad).run P w'.toWorld = .ok (sh.val l) w'.toWorld ∧ satB Bk t (ρ ++ l) w'
  | .appk ik e sz by' s x t, ρ, w => w0.nk ik = true ∧ ∀ w', Le w0 w w' → AppOk w0 e sz by' (s.den ρ []) (x.den ρ []) w' fun s' w'' => satB Bk t (ρ ++ [s']) w''
  | .callv x args sh t, ρ, w => ∀ w', Le w0 w w' → ∃ f first caps, x.den ρ [] = .func (.func f) first caps ∧ goodF P f = true ∧ Calls P f (first ++ (args.map (Tm.den ρ [])).toArray ++ caps) w'.toWorld fun e w'' => match e with
      | .returned x => ∃ l ow, l.length = sh.len ∧ x = sh.val l ∧ ow.toWorld = w'' ∧ Eff w0 w' ow ∧ satB Bk t (ρ ++ l) ow
      | .panicked c => BelowF w0 w'' ∧ Pn c w''
      | .outgrown => False
  | .pan x, ρ, w => ∃ ty v, x.den ρ [] = .iface ty v ∧ ∀ w', Le w0 w w' → Pn [{ v := .iface ty v, recovered := false }] w'.toWorld
  | .conv src dst x t, ρ, w => ∃ v, (∀ w', Lf w0 w w' → (convert src dst (x.den ρ [])).run P w'.toWorld = .ok v w'.toWorld) ∧ satB Bk t (ρ ++ [v]) w
  | .convm src dst x t, ρ, w => ∀ w', Le w0 w w' → ∃ v, (convert src dst (x.den ρ [])).run P w'.toWorld = .ok v w'.toWorld ∧ satB Bk t (ρ ++ [v]) w'
  | .fst ty x v t, ρ, w => ∃ ad, x.den ρ [] = .pointer (some ad) ∧ ∀ w', Le w0 w w' → ∃ ow, (storeVar ty ad (v.den ρ [])).run P w'.toWorld = .ok () ow.toWorld ∧ Eff w0 w' ow ∧ satB Bk t ρ ow
  | .newf ty cs t, ρ, w => ∀ w', Le w0 w w' → satB Bk t (ρ ++ [.pointer (some ⟨w'.heap.size, 0, none⟩)]) ⟨w'.alloc (.cells (denL ρ [] cs).toArray ty), w'.own, w'.heap.size :: w'.bld⟩
  | .row e cs n k t, ρ, w => (∀ x ∈ k, (x.den ρ []).oneCell' = true) ∧ ∀ w', Le w0 w w' →
      satB Bk t (ρ ++ [.slice (some ⟨w'.heap.size, 0, none⟩) n n]) ⟨w'.alloc (.cells (denL ρ [] cs).toArray e), w'.own, w'.bld⟩ ∨
      satB Bk t (ρ ++ [.slice (some ⟨w'.heap.size, 0, none⟩) n n]) ⟨w'.alloc (.cells (denL ρ [] cs).toArray e), w'.own, w'.heap.size :: w'.bld⟩
  | .ite c t e, ρ, w => ∃ b, c.den ρ [] = .bool b ∧ (b = true → satB Bk t ρ w) ∧ (b = false → satB Bk e ρ w)
  | .load ty x sh t, ρ, w => ∃ l ad, l.length = sh.len ∧ x.den ρ [] = .pointer (some ad) ∧ (∀ w', Lf w0 w w' → (loadVar ty ad).run P w'.toWorld = .ok (sh.val l) w'.toWorld) ∧ satB Bk t (ρ ++ l) w
  | .app e sz by' s x t, ρ, w => ∀ w', Le w0 w w' → AppOk w0 e sz by' (s.den ρ []) (x.den ρ []) w' fun s' w'' => satB Bk t (ρ ++ [s']) w''
  | .loop d init body, ρ, w => ∃ I : Nat → List Value → OW → Prop, (∀ w', Le w0 w w' → ∃ n, I n (denL ρ [] init) w') ∧
      ∀ n vals w', vals.length = init.length → Lf w0 w w' → I n vals w' → satB (Bk.set d fun vs w'' => ∃ n', n' < n ∧ I n' vs w'') body (ρ ++ vals) w'
  | .back d vals, ρ, w => ∀ w', Le w0 w w' → Bk d (denL ρ [] vals) w'
  | .alt t t', ρ, w => satB Bk t ρ w ∧ satB Bk t' ρ w
  | .dead, _, _ => False
abbrev sat (t : Tree) (ρ : List Value) (w : OW) : Prop := satB P w0 R Pn (fun _ _ _ => False) t ρ w
theorem AppOk.mono {w0 : Fr} {e : TypeId} {sz bytes : Nat} {s x : Value} {w : OW} {k k' : Value → OW → Prop} (h : AppOk w0 e sz bytes s x w k) (hk : ∀ s' w', App w0 w w' s s' → k s' w' → k' s' w') : AppOk w0 e sz bytes s x w k' := by
  obtain ⟨n, xs, ad, m, c, news, h1, h2, h3, h4, h5, h6, h7, h8⟩ := h
  exact ⟨n, xs, ad, m, c, news, h1, h2, h3, h4, h5, h6, h7, fun s' w' hA hO => hk s' w' hA (h8 s' w' hA hO)⟩
theorem sat_mono {w0 : Fr} {R : Value → World → Prop} {Pn : List PanicEntry → World → Prop} : ∀ {Bk : Back} {t : Tree} {ρ : List Value} {w w' : OW}, satB P w0 R Pn Bk t ρ w → Le w0 w w' → satB P w0 R Pn Bk t ρ w'
  | _, .ret _, _, _, _, h, hl => fun w'' hl' => h w'' (hl.trans hl')
  | _, .chk _ _, _, _, _, ⟨h1, h2⟩, hl => ⟨h1, sat_mono h2 hl⟩
  | _, .prim _ _ _, _, _, _, ⟨v, h1, h2⟩, hl => ⟨v, h1, sat_mono h2 hl⟩
  | _, .call _ _ _ _, _, _, _, h, hl => fun w'' hl' => h w'' (hl.trans hl')
  | _, .row _ _ _ _ _, _, _, _, ⟨h1, h2⟩, hl => ⟨h1, fun w'' hl' => h2 w'' (hl.trans hl')⟩
  | _, .ite _ _ _, _, _, _, ⟨b, h1, h2, h3⟩, hl => ⟨b, h1, fun e => sat_mono (h2 e) hl, fun e => sat_mono (h3 e) hl⟩
  | _, .load _ _ _ _, _, _, _, ⟨l, ad, h1, h2, h3, h4⟩, hl => ⟨l, ad, h1, h2, fun w'' hl' => h3 w'' (hl.toLf.trans hl'), sat_mono h4 hl⟩
  | _, .app _ _ _ _ _ _, _, _, _, h, hl => fun w'' hl' => h w'' (hl.trans hl')
  | _, .loadm _ _ _ _, _, _, _, h, hl => fun w'' hl' => h w'' (hl.trans hl')
  | _, .appk _ _ _ _ _ _ _, _, _, _, ⟨h0, h⟩, hl => ⟨h0, fun w'' hl' => h w'' (hl.trans hl')⟩
  | _, .callv _ _ _ _, _, _, _, h, hl => fun w'' hl' => h w'' (hl.trans hl')
  | _, .pan _, _, _, _, ⟨ty, v, h1, h2⟩, hl => ⟨ty, v, h1, fun w'' hl' => h2 w'' (hl.trans hl')⟩
  | _, .conv _ _ _ _, _, _, _, ⟨v, h1, h2⟩, hl => ⟨v, fun w'' hl' => h1 w'' (hl.toLf.trans hl'), sat_mono h2 hl⟩
  | _, .convm _ _ _ _, _, _, _, h, hl => fun w'' hl' => h w'' (hl.trans hl')
  | _, .fst _ _ _ _, _, _, _, ⟨ad, h1, h2⟩, hl => ⟨ad, h1, fun w'' hl' => h2 w'' (hl.trans hl')⟩
  | _, .newf _ _ _, _, _, _, h, hl => fun w'' hl' => h w'' (hl.trans hl')
  | _, .loop _ _ _, _, _, _, ⟨I, h1, h2⟩, hl => ⟨I, fun w'' hl' => h1 w'' (hl.trans hl'), fun n vals w'' hv hl' hi => h2 n vals w'' hv (hl.toLf.trans hl') hi⟩
  | _, .back _ _, _, _, _, h, hl => fun w'' hl' => h w'' (hl.trans hl')
  | _, .alt _ _, _, _, _, ⟨h1, h2⟩, hl => ⟨sat_mono h1 hl, sat_mono h2 hl⟩
  | _, .dead, _, _, _, h, _ => h.elim
end
def chkT (k : List At) (t : Tree) : Tree := match k with | [] => t | k => .chk k t
section
variable (P : Program) (es stable : List Nat)
/-- The mark that variables are read that other functions write. -/
def mutM : Nat := 999999
def hasD (d : Option Nat) (es : List Nat) : Bool := match d with | some d => es.contains d | none => false
/-- What follows one operation; es: the slots of variables that other functions write. -/
def outK (σ : St) (d : Option Nat) (K : St → Option Tree) : Out → Option Tree
  | .val v => forceTm v fun v => force (σ.put d v) K
  | .load b v => match σ.bx[b]? with
    | some _ => forceTm v fun v => force (σ.put d v) K
    | none => none
  | .new ty cs => if hasD d es then (if cs.all At.noP then (force ((σ.more 1).put d (.one (.lf σ.n))) K).map (.newf ty cs) else none) else force ((σ.new ty cs).put d (.one (.ptr σ.bx.length 0))) K
  | .store b off ls => match σ.bx[b]? with
    | some (ty, cs) => if off + ls.length ≤ cs.length ∧ stable.contains b = false then force ((σ.setb b (ty, cs.take off ++ ls ++ cs.drop (off + ls.length))).del d) K else none
    | none => none
  | .prim p args => if args.all At.noP then (force ((σ.more 1).put d (.one (.lf σ.n))) K).map (.prim p args) else none
  | .row e cs n k => if cs.all At.noP ∧ k.all At.noP then (force ((σ.more 1).put d (.one (.lf σ.n))) K).map (.row e cs n k) else none
  | .call f args sh => if args.all Tm.noP then (forceTm (sh.tm σ.n) fun v => force ((σ.more sh.len).put d v) K).map (.call f args sh) else none
  | .fload ty x sh => if x.noP then (forceTm (sh.tm σ.n) fun v => force ((σ.more sh.len).put d v) K).map (if es.contains mutM then .loadm ty x sh else .load ty x sh) else none
  | .app e sz by' s x => if s.noP ∧ x.noP then (force ((σ.more 1).put d (.one (.lf σ.n))) K).map (.app e sz by' s x) else none
  | .appk ik e sz by' s x => if s.noP ∧ x.noP then (force ((σ.more 1).put d (.one (.lf σ.n))) K).map (.appk ik e sz by' s x) else none
  | .fst ty x v => if x.noP ∧ v.noP then (force (σ.del d) K).map (.fst ty x v) else none
  | .callv x args sh => if x.noP ∧ args.all Tm.noP then (forceTm (sh.tm σ.n) fun v => force ((σ.more sh.len).put d v) K).map (.callv x args sh) else none
  | .pan x => if x.noP then some (.pan x) else none
  | .conv src dst x => if x.noP then (force ((σ.more 1).put d (.one (.lf σ.n))) K).map (if es.contains mutM then .convm src dst x else .conv src dst x) else none
def stepK (σ : St) (o : Oper) (K : St → Option Tree) : Option Tree :=
  match outOf P σ o with
  | some (k, out) => if σ.fits o.dst = true ∧ k.all At.noP = true then (outK es stable σ o.dst K out).map (chkT k) else none
  | none => none
/-- A choice by a test that is not known parts the ways. -/
def pickJ (σ : St) (o : Oper) : Option Nat :=
  match o.op with
  | .pick c _ _ => match σ.evAt c with
    | some (.lf j) => match lookN j σ.kb with
      | some _ => none
      | none => some j
    | _ => none
  | _ => none
def pstep (σ : St) (o : Oper) (K : St → Option Tree) : Option Tree :=
  match pickJ σ o with
  | none => stepK P es stable σ o K
  | some j => match force (σ.know (.lf j) true) (fun σ => stepK P es stable σ o K), force (σ.know (.lf j) false) (fun σ => stepK P es stable σ o K) with
    | some t, some e => some (.ite (.lf j) t e)
    | _, _ => none
/-- An operation that is not wanted. -/
def skipK (σ : St) (d : Option Nat) (K : St → Option Tree) : Option Tree := if σ.fits d then force (σ.del d) K else none
/-- The guard is known, or parts the ways. -/
def gstep (ops : Array Oper) (σ : St) (o : Oper) (K : St → Option Tree) : Option Tree :=
  match o.guard with
  | none => pstep P es stable σ o K
  | some (j, want) => match ((ops[j]?).bind (·.dst)).bind σ.get with
    | some (.one x) => match σ.boolOf x with
      | some b => if b = want then pstep P es stable σ o K else skipK σ o.dst K
      | none => if x.noP then match force (σ.know x want) (fun σ => pstep P es stable σ o K), force (σ.know x (!want)) (fun σ => skipK σ o.dst K) with
          | some t, some e => some (if want then .ite x t e else .ite x e t)
          | _, _ => none
        else none
    | some (.tup []) => skipK σ o.dst K
    | _ => none
end
/-- A relation of a state that the steps keep. -/
structure Closed (stable : List Nat) (X : St → List Value → List Nat → Prop) : Prop where
  put : ∀ {σ ρ β}, X σ ρ β → ∀ d v, X (σ.put d v) ρ β
  know : ∀ {σ ρ β}, X σ ρ β → ∀ x b, X (σ.know x b) ρ β
  more : ∀ {σ ρ β}, X σ ρ β → ∀ l : List Value, X (σ.more l.length) (ρ ++ l) β
  new : ∀ {σ ρ β}, X σ ρ β → ∀ ty cs g, X (σ.new ty cs) ρ (β ++ [g])
  setb : ∀ {σ ρ β}, X σ ρ β → ∀ b e, stable.contains b = false → X (σ.setb b e) ρ β
theorem Closed.weak {X : St → List Value → List Nat → Prop} (h : Closed [] X) (stable : List Nat) : Closed stable X := ⟨h.put, h.know, h.more, h.new, fun hx b e _ => h.setb hx b e rfl⟩
theorem Closed.and {stable : List Nat} {X Y : St → List Value → List Nat → Prop} (h : Closed stable X) (k : Closed stable Y) : Closed stable (fun σ ρ β => X σ ρ β ∧ Y σ ρ β) :=
  ⟨fun hx d v => ⟨h.put hx.1 d v, k.put hx.2 d v⟩, fun hx x b => ⟨h.know hx.1 x b, k.know hx.2 x b⟩, fun hx l => ⟨h.more hx.1 l, k.more hx.2 l⟩, fun hx t c g => ⟨h.new hx.1 t c g, k.new hx.2 t c g⟩, fun hx b e hb => ⟨h.setb hx.1 b e hb, k.setb hx.2 b e hb⟩⟩
/-- What was bound stays bound. -/
def Pre (ρp : List Value) (βp : List Nat) : St → List Value → List Nat → Prop := fun _ ρ β => ρp <+: ρ ∧ βp <+: β
theorem closed_pre (ρp : List Value) (βp : List Nat) : Closed [] (Pre ρp βp) :=
  ⟨fun h _ _ => h, fun h _ _ => h, fun h _ => ⟨h.1.trans (List.prefix_append _ _), h.2⟩, fun h _ _ _ => ⟨h.1, h.2.trans (List.prefix_append _ _)⟩, fun h _ _ _ => h⟩
/-- The variables of the call's own are known to be so. -/
structure Ow (w0 : Fr) (β : List Nat) (w : OW) : Prop where
  own : ∀ g ∈ β, g ∈ w.own
  wf : WF w0 w
section
variable {P : Program} {w0 : Fr} {R : Value → World → Prop} {Pn : List PanicEntry → World → Prop} {Bk : Back} {es stable : List Nat} {X : St → List Value → List Nat → Prop} {W : OW}
/-- What follows is shown. -/
def Good (P : Program) (w0 : Fr) (R : Value → World → Prop) (Pn : List PanicEntry → World → Prop) (Bk : Back) (X : St → List Value → List Nat → Prop) (W : OW) (K : St → Option Tree) (a : Act) (w : World) : Prop :=
  ∃ (ow : OW) (σ : St) (t : Tree) (ρ : List Value) (β : List Nat), ow.toWorld = w ∧ K σ = some t ∧ X σ ρ β ∧ Lf w0 W ow ∧ Ow w0 β ow ∧ M w0 σ ρ β a w ∧ satB P w0 R Pn Bk t ρ ow
theorem denL_ext {ρ : List Value} {β : List Nat} {l : List At} (h : l.all At.noP = true) : denL ρ [] l = denL ρ β l := denL_noP h ρ [] β
theorem args_ext {ρ : List Value} {β : List Nat} {l : List Tm} (h : l.all Tm.noP = true) : l.map (Tm.den ρ []) = l.map (Tm.den ρ β) :=
  List.map_congr_left fun x hx => Tm.den_noP (List.all_eq_true.1 h x hx) ρ [] β
theorem lf_ext {ρ : List Value} {j : Nat} (h : ρ.getD j undef ≠ undef) (l : List Value) : (ρ ++ l).getD j undef = ρ.getD j undef := by
  rcases Nat.lt_or_ge j ρ.length with hlt | hge
  · rw [List.getD_eq_getElem?_getD, List.getD_eq_getElem?_getD, List.getElem?_append_left hlt]
  · exact absurd (by rw [List.getD_eq_getElem?_getD, List.getElem?_eq_none hge]; rfl) h
theorem leaf_ext {ρ : List Value} {x : At} (hp : x.noP = true) (h : LeafOk (x.den ρ [])) (l : List Value) {β' : List Nat} : x.den (ρ ++ l) β' = x.den ρ [] := by
  cases x with
  | lf j =>
    refine lf_ext (fun e => ?_) l
    have h1 := h.1
    simp only [At.den] at h1
    rw [e] at h1
    exact absurd h1 (by simp [undef, Value.oneCell'])
  | ptr b o => simp [At.noP] at hp
  | num k n => rfl
  | bit x => rfl
  | nil => rfl
  | nilp => rfl
  | fn f => rfl
theorem ok_inj {u v : Value} {w w' : World} (h : (Result.ok (Next.value u) w : Result Next) = .ok (.value v) w') : u = v := by
  injection h with h1
  injection h1
/-- A later world in which the variables of the call's own are as they were. -/
theorem M.keepO {σ : St} {ρ : List Value} {β : List Nat} {a : Act} {w w' : World} (h : M w0 σ ρ β a w) (hb : ∀ g ∈ β, w'.heap[g]? = w.heap[g]?) (hle : BelowF w0 w') : M w0 σ ρ β a w' := by
  refine ⟨⟨h.m0.sz, h.m0.tm, fun b e he => ?_, h.m0.kb⟩, h.inj, h.nb, h.nn, hle, h.df⟩
  obtain ⟨g, vs, h1, h2, h3, h4, h5⟩ := h.m0.bx b e he
  refine ⟨g, vs, h1, h2, ?_, h4, h5⟩
  unfold Box at *
  rw [hb g (List.mem_of_getElem? h1)]
  exact h3
theorem stepK_sound {σ : St} {ρ : List Value} {β : List Nat} {a : Act} {w : OW} {o : Oper} {K : St → Option Tree} {t : Tree} {Q : Exit → Act → World → Prop} (hX : Closed stable X)
    (hM : M w0 σ ρ β a w.toWorld) (hO : Ow w0 β w) (hW : Lf w0 W w) (hx : X σ ρ β) (ht : stepK P es stable σ o K = some t) (hs : satB P w0 R Pn Bk t ρ w) (hQ : ∀ c a w, DfOk w0 a → Pn c w → BelowF w0 w → Q (.panic c) a w) :
    o.wp P a w.toWorld (Good P w0 R Pn Bk X W K) Q := by
  unfold stepK at ht
  split at ht
  · rename_i k out hout
    split at ht
    · rename_i hc
      obtain ⟨hf, hk⟩ := hc
      obtain ⟨t1, ht1, rfl⟩ := Option.map_eq_some_iff.1 ht
      have hks : (∀ x ∈ k, LeafOk (x.den ρ [])) ∧ satB P w0 R Pn Bk t1 ρ w := by
        cases k with
        | nil => exact ⟨fun x hx => (by cases hx), hs⟩
        | cons y r => exact hs
      obtain ⟨hk1, hs1⟩ := hks
      have hkm : ∀ l m, ∀ x ∈ k, LeafOk (x.den (ρ ++ l) (β ++ m)) := fun l m x hx => by
        rw [leaf_ext (List.all_eq_true.1 hk x hx) (hk1 x hx) l]
        exact hk1 x hx
      have hok := fun l m => out_sound (hM.m0.ext l m) hout (hkm l m)
      have hok0 : OutOk P σ ρ β a o out := by
        have := hok [] []
        simpa using this
      have hlr : Le w0 w w := Le.refl hO.wf hM.le
      unfold Oper.wp
      cases out with
      | val v =>
        simp only [outK, force_eq, forceTm_eq] at ht1
        have h0 : ∀ w, _ := hok0
        rw [h0 w.toWorld]
        refine ⟨w, _, _, _, _, rfl, ht1, hX.put hx _ _, hW, hO, hM.put hf (fun l m => ?_), hs1⟩
        have h1 : ∀ w, _ := hok l m
        exact ok_inj ((h0 w.toWorld).symm.trans (h1 w.toWorld))
      | load b v =>
        simp only [outK, force_eq, forceTm_eq] at ht1
        have h0 : ∀ e g w, _ := hok0
        split at ht1
        case h_2 => cases ht1
        rename_i e he
        obtain ⟨g, vs, e1, e2, e3, e4, e5⟩ := hM.m0.bx b e he
        have ed : denL ρ β e.2 = vs := by have := e2 [] []; simpa using this
        rw [h0 e g w.toWorld he e1 (ed ▸ e3)]
        refine ⟨w, _, _, _, _, rfl, ht1, hX.put hx _ _, hW, hO, hM.put hf (fun l m => ?_), hs1⟩
        have h1 : ∀ e g w, _ := hok l m
        refine ok_inj ((h0 e g w.toWorld he e1 (ed ▸ e3)).symm.trans (h1 e g w.toWorld he ?_ ?_))
        · rw [List.getElem?_append_left (List.getElem?_eq_some_iff.1 e1).1]; exact e1
        · rw [e2]; exact e3
      | new ty cs =>
        simp only [outK, force_eq] at ht1
        obtain ⟨hv, h0⟩ := hok0
        rw [h0 w.toWorld]
        split at ht1
        · split at ht1
          · rename_i hn1
            obtain ⟨t2, ht2, rfl⟩ := Option.map_eq_some_iff.1 ht1
            have hs4 := hs1 w hlr
            rw [denL_ext (β := β) hn1] at hs4
            have hm := (hM.keep (show Below w.heap.size w.toWorld (w.alloc (.cells (denL ρ β cs).toArray ty)) by go_grown)).more [.pointer (some ⟨w.heap.size, 0, none⟩)]
            have hL := Le.newB hO.wf hM.le (.cells (denL ρ β cs).toArray ty)
            refine ⟨⟨_, w.own, w.heap.size :: w.bld⟩, _, _, _, _, rfl, ht2, hX.put (hX.more hx [_]) _ _, hW.trans hL.toLf, ⟨hO.own, hL.wf⟩, hm.put ?_ (fun l m => ?_), hs4⟩
            · cases hd : o.dst <;> simp_all [St.fits, St.more]
            · simp only [Tm.den, At.den, List.append_assoc]
              rw [← hM.nn, List.getD_eq_getElem?_getD, List.getElem?_append_right (Nat.le_refl _)]
              simp
          · cases ht1
        have hsame : ∀ l m, denL (ρ ++ l) (β ++ m) cs = denL ρ β cs := fun l m => by
          have h1 := (hok l m).2 w.toWorld
          have h2 := (h0 w.toWorld).symm.trans h1
          injection h2 with h2 h3
          have h4 := congrArg (fun W : World => W.heap[w.heap.size]?) h3
          simp only [heap_alloc_new] at h4
          injection h4 with h4
          injection h4 with h4
          have h5 := congrArg Array.toList h4
          exact h5.symm
        have hN := hM.new (ty := ty) hsame hv
        have hL := Le.new hO.wf hM.le (.cells (denL ρ β cs).toArray ty)
        refine ⟨⟨w.alloc (.cells (denL ρ β cs).toArray ty), w.own ++ [w.heap.size], w.bld⟩, _, _, _, _, rfl, ht1, hX.put (hX.new hx ty cs w.heap.size) _ _, hW.trans hL.toLf, ⟨fun g hg => ?_, hL.wf⟩, hN.put ?_ (fun l m => ?_), sat_mono P hs1 hL⟩
        · rcases List.mem_append.1 hg with hg | hg
          · exact List.mem_append_left _ (hO.own g hg)
          · exact List.mem_append_right _ hg
        · cases hd : o.dst <;> simp_all [St.fits, St.new]
        · simp only [Tm.den, At.den, List.append_assoc]
          rw [← hM.nb, List.getD_eq_getElem?_getD, List.getElem?_append_right (Nat.le_refl _)]
          simp
      | store b off ls =>
        simp only [outK, force_eq] at ht1
        split at ht1
        · rename_i ty cs hb
          split at ht1
          · rename_i hc2
            obtain ⟨hle, hst⟩ := hc2
            obtain ⟨hv, h0⟩ := hok0
            obtain ⟨g, vs, e1, e2, e3, e4, e5⟩ := hM.m0.bx b _ hb
            have ed : denL ρ β cs = vs := by have := e2 [] []; simpa using this
            rw [h0 _ g w.toWorld hb e1 (by simp only; rw [ed]; exact e3) hle]
            have hsame : ∀ l m, denL (ρ ++ l) (β ++ m) ls = denL ρ β ls := fun l m => by
              have h1 := (hok l m).2 _ g w.toWorld hb (by rw [List.getElem?_append_left (List.getElem?_eq_some_iff.1 e1).1]; exact e1) (by simp only; rw [e2]; exact e3) hle
              have h2 := (h0 _ g w.toWorld hb e1 (by simp only; rw [ed]; exact e3) hle).symm.trans h1
              injection h2 with h2 h3
              have h4 := congrArg (fun W : World => W.heap[g]?) h3
              simp only at h4
              rw [setRow_heap w.toWorld g vs.toArray _ ty (0, 0) e3, setRow_heap w.toWorld g vs.toArray _ ty (0, 0) e3, e2, ed] at h4
              injection h4 with h4
              injection h4 with h4
              have h5 := congrArg Array.toList h4
              simp only [List.append_assoc] at h5
              have h6 := List.append_cancel_left h5
              have hl1 : (denL (ρ ++ l) (β ++ m) ls).length = (denL ρ β ls).length := by simp [denL]
              exact (List.append_inj h6 hl1.symm).1.symm
            have hS := hM.store (off := off) hb e1 e2 hsame hv
            have hlen : (denL ρ β ls).length = ls.length := by simp [denL]
            rw [hlen] at hS
            simp only [ed]
            have hL := Le.setRow hO.wf hM.le e3 e5 (hO.own g (List.mem_of_getElem? e1)) (vs.take off ++ denL ρ β ls ++ vs.drop (off + ls.length)).toArray
            exact ⟨⟨_, w.own, w.bld⟩, _, _, _, _, rfl, ht1, hX.put (hX.setb hx b _ hst) _ _, hW.trans hL.toLf, ⟨hO.own, hL.wf⟩, hS.del (by cases hd : o.dst <;> simp_all [St.fits, St.setb]), sat_mono P hs1 hL⟩
          · cases ht1
        · cases ht1
      | prim p args =>
        simp only [outK, force_eq] at ht1
        split at ht1
        · rename_i hn
          obtain ⟨t2, ht2, rfl⟩ := Option.map_eq_some_iff.1 ht1
          obtain ⟨v, hv, hs2⟩ := hs1
          rw [denL_ext (β := β) hn] at hv
          have h0 : ∀ v, _ → ∀ w, _ := hok0
          rw [h0 v hv w.toWorld]
          have hm := hM.more [v]
          refine ⟨w, _, _, _, _, rfl, ht2, hX.put (hX.more hx [v]) _ _, hW, hO, hm.put ?_ (fun l m => ?_), hs2⟩
          · cases hd : o.dst <;> simp_all [St.fits, St.more]
          · simp only [Tm.den, At.den, List.append_assoc]
            rw [← hM.nn, List.getD_eq_getElem?_getD, List.getElem?_append_right (Nat.le_refl _)]
            simp
        · cases ht1
      | row e cs n k1 =>
        simp only [outK, force_eq] at ht1
        split at ht1
        · rename_i hn
          obtain ⟨hn1, hn2⟩ := hn
          obtain ⟨t2, ht2, rfl⟩ := Option.map_eq_some_iff.1 ht1
          obtain ⟨hk2, hs2⟩ := hs1
          have h0 : _ → ∀ w, _ := hok0
          rw [h0 (fun x hx => by rw [← At.den_noP (List.all_eq_true.1 hn2 x hx) ρ [] β]; exact hk2 x hx) w.toWorld]
          have hs3 := hs2 w hlr
          rw [denL_ext (β := β) hn1] at hs3
          have hm := (hM.keep (show Below w.heap.size w.toWorld (w.alloc (.cells (denL ρ β cs).toArray e)) by go_grown)).more [.slice (some ⟨w.heap.size, 0, none⟩) n n]
          have fin : ∀ bl, Le w0 w ⟨w.alloc (.cells (denL ρ β cs).toArray e), w.own, bl⟩ → satB P w0 R Pn Bk t2 (ρ ++ [.slice (some ⟨w.heap.size, 0, none⟩) n n]) ⟨w.alloc (.cells (denL ρ β cs).toArray e), w.own, bl⟩ → Good P w0 R Pn Bk X W K (a.put o.dst (.slice (some ⟨w.heap.size, 0, none⟩) n n)) (w.alloc (.cells (denL ρ β cs).toArray e)) := fun bl hL hs4 => by
            refine ⟨⟨_, w.own, bl⟩, _, _, _, _, rfl, ht2, hX.put (hX.more hx [_]) _ _, hW.trans hL.toLf, ⟨hO.own, hL.wf⟩, hm.put ?_ (fun l m => ?_), hs4⟩
            · cases hd : o.dst <;> simp_all [St.fits, St.more]
            · simp only [Tm.den, At.den, List.append_assoc]
              rw [← hM.nn, List.getD_eq_getElem?_getD, List.getElem?_append_right (Nat.le_refl _)]
              simp
          rcases hs3 with hs3 | hs3
          · exact fin _ (Le.of hO.wf hM.le (by go_grown)) hs3
          · exact fin _ (Le.newB hO.wf hM.le _) hs3
        · cases ht1
      | call f args sh =>
        simp only [outK, force_eq, forceTm_eq] at ht1
        split at ht1
        · rename_i hn
          obtain ⟨t2, ht2, rfl⟩ := Option.map_eq_some_iff.1 ht1
          have h0 : ∀ w, _ := hok0
          rw [h0 w.toWorld, ← args_ext (β := β) hn]
          refine (hs1 w hlr).mono fun e w'' he => ?_
          cases e with
          | returned x =>
            obtain ⟨l, ow, hl, rfl, rfl, hE, hs2⟩ := he
            have hm := (hM.keepO (w' := ow.toWorld) (fun g hg => hE.keepO g (hO.own g hg)) hE.b).more l
            rw [hl] at hm
            have hx2 := hX.more hx l
            rw [hl] at hx2
            refine ⟨ow, _, _, _, _, rfl, ht2, hX.put hx2 _ _, hW.trans hE.toLf, ⟨fun g hg => by rw [hE.ownEq]; exact hO.own g hg, hE.wf⟩, hm.put ?_ (fun l' m => ?_), hs2⟩
            · cases hd : o.dst <;> simp_all [St.fits, St.more]
            · rw [← hM.nn]; exact (sh_den ρ l l' (β ++ m) sh hl).symm
          | panicked c => exact hQ c _ _ hM.df.ok he.2 he.1
          | outgrown => exact he.elim
        · cases ht1
      | callv x args sh =>
        simp only [outK, force_eq, forceTm_eq] at ht1
        split at ht1
        · rename_i hn
          obtain ⟨hn1, hn2⟩ := hn
          obtain ⟨t2, ht2, rfl⟩ := Option.map_eq_some_iff.1 ht1
          have h0 : ∀ f first caps w, _ → _ → _ := hok0
          obtain ⟨f, first, caps, hd, hg, hC⟩ := hs1 w hlr
          rw [At.den_noP hn1 ρ [] β] at hd
          rw [h0 f first caps w.toWorld hd hg, ← args_ext (β := β) hn2]
          refine hC.mono fun e w'' he => ?_
          cases e with
          | returned x =>
            obtain ⟨l, ow, hl, rfl, rfl, hE, hs2⟩ := he
            have hm := (hM.keepO (w' := ow.toWorld) (fun g hg => hE.keepO g (hO.own g hg)) hE.b).more l
            rw [hl] at hm
            have hx2 := hX.more hx l
            rw [hl] at hx2
            refine ⟨ow, _, _, _, _, rfl, ht2, hX.put hx2 _ _, hW.trans hE.toLf, ⟨fun g hg => by rw [hE.ownEq]; exact hO.own g hg, hE.wf⟩, hm.put ?_ (fun l' m => ?_), hs2⟩
            · cases hd : o.dst <;> simp_all [St.fits, St.more]
            · rw [← hM.nn]; exact (sh_den ρ l l' (β ++ m) sh hl).symm
          | panicked c => exact hQ c _ _ hM.df.ok he.2 he.1
          | outgrown => exact he.elim
        · cases ht1
      | pan x =>
        simp only [outK] at ht1
        split at ht1
        · rename_i hn
          injection ht1 with ht1
          subst ht1
          obtain ⟨ty, v, hd, hp⟩ := hs1
          rw [At.den_noP hn ρ [] β] at hd
          have h0 : ∀ t v w, _ → _ := hok0
          rw [h0 ty v w.toWorld hd]
          exact hQ _ _ _ hM.df.ok (hp w hlr) hM.le
        · cases ht1
      | conv src dst x =>
        simp only [outK, force_eq] at ht1
        split at ht1
        · rename_i hn
          obtain ⟨t2, ht2, hte⟩ := Option.map_eq_some_iff.1 ht1
          have hs3 : ∃ v, (convert src dst (x.den ρ [])).run P w.toWorld = .ok v w.toWorld ∧ satB P w0 R Pn Bk t2 (ρ ++ [v]) w := by
            split at hte
            · subst hte
              exact hs1 w hlr
            · subst hte
              obtain ⟨v, hv, hs2⟩ := hs1
              exact ⟨v, hv w hlr.toLf, hs2⟩
          obtain ⟨v, hv1, hs2⟩ := hs3
          rw [At.den_noP hn ρ [] β] at hv1
          have h0 : ∀ w v, _ → _ := hok0
          rw [h0 w.toWorld v hv1]
          have hm := hM.more [v]
          refine ⟨w, _, _, _, _, rfl, ht2, hX.put (hX.more hx [v]) _ _, hW, hO, hm.put ?_ (fun l m => ?_), hs2⟩
          · cases hd : o.dst <;> simp_all [St.fits, St.more]
          · simp only [Tm.den, At.den, List.append_assoc]
            rw [← hM.nn, List.getD_eq_getElem?_getD, List.getElem?_append_right (Nat.le_refl _)]
            simp
        · cases ht1
      | fst ty x v =>
        simp only [outK, force_eq] at ht1
        split at ht1
        · rename_i hn
          obtain ⟨hn1, hn2⟩ := hn
          obtain ⟨t2, ht2, rfl⟩ := Option.map_eq_some_iff.1 ht1
          obtain ⟨ad, hd, hst⟩ := hs1
          obtain ⟨ow, hrun, hE, hs2⟩ := hst w hlr
          rw [At.den_noP hn1 ρ [] β] at hd
          rw [Tm.den_noP hn2 ρ [] β] at hrun
          have h0 : ∀ w w' ad, _ → _ → _ := hok0
          rw [h0 w.toWorld ow.toWorld ad hd hrun]
          have hm := hM.keepO (w' := ow.toWorld) (fun g hg => hE.keepO g (hO.own g hg)) hE.b
          exact ⟨ow, _, _, _, _, rfl, ht2, hX.put hx _ _, hW.trans hE.toLf, ⟨fun g hg => by rw [hE.ownEq]; exact hO.own g hg, hE.wf⟩, hm.del hf, hs2⟩
        · cases ht1
      | fload ty x sh =>
        simp only [outK, force_eq, forceTm_eq] at ht1
        split at ht1
        · rename_i hn
          obtain ⟨t2, ht2, hte⟩ := Option.map_eq_some_iff.1 ht1
          have h0 : ∀ w ad v, _ → _ → _ := hok0
          have hs3 : ∃ l ad, l.length = sh.len ∧ x.den ρ [] = .pointer (some ad) ∧ (loadVar ty ad).run P w.toWorld = .ok (sh.val l) w.toWorld ∧ satB P w0 R Pn Bk t2 (ρ ++ l) w := by
            split at hte
            · subst hte
              exact hs1 w hlr
            · subst hte
              obtain ⟨l, ad, hl, had, hrun, hs2⟩ := hs1
              exact ⟨l, ad, hl, had, hrun w hlr.toLf, hs2⟩
          obtain ⟨l, ad, hl, had, hrun, hs2⟩ := hs3
          rw [At.den_noP hn ρ [] β] at had
          rw [h0 w.toWorld ad _ had hrun]
          have hm := hM.more l
          rw [hl] at hm
          have hx2 := hX.more hx l
          rw [hl] at hx2
          refine ⟨w, _, _, _, _, rfl, ht2, hX.put hx2 _ _, hW, hO, hm.put ?_ (fun l' m => ?_), hs2⟩
          · cases hd : o.dst <;> simp_all [St.fits, St.more]
          · rw [← hM.nn]; exact (sh_den ρ l l' (β ++ m) sh hl).symm
        · cases ht1
      | app e sz by' s x =>
        simp only [outK, force_eq] at ht1
        split at ht1
        · rename_i hn
          obtain ⟨hn1, hn2⟩ := hn
          obtain ⟨t2, ht2, rfl⟩ := Option.map_eq_some_iff.1 ht1
          obtain ⟨n, xs, ad, m, c, news, h1, h2, h3, h4, h5, h6, h7, h8⟩ := hs1 w hlr
          rw [At.den_noP hn1 ρ [] β] at h1 h8
          rw [At.den_noP hn2 ρ [] β] at h2
          obtain ⟨t, ty, i, z, g1, g2, g3, rfl, rfl, g6, g7, g8, hrun⟩ := hok0
          obtain ⟨v', w', hr, hO', hA⟩ := run_app w hO.wf hM.le t ty e i z g1 g2 g3 g6 g7 (fun u hu => (g8 u hu).n w0) _ n xs h1 ad m c news h3 h4 h5 h6 h7
          rw [hrun w.toWorld v' w'.toWorld (by rw [h2]; exact hr)]
          have hm := (hM.keepO (w' := w'.toWorld) (fun g hg => hA.keepO g (hO.own g hg)) hA.b).more [v']
          refine ⟨w', _, _, _, _, rfl, ht2, hX.put (hX.more hx [v']) _ _, hW.trans hA.toLf, ⟨fun g hg => by rw [hA.ownEq]; exact hO.own g hg, hA.wf⟩, hm.put ?_ (fun l' m' => ?_), h8 v' w' hA hO'⟩
          · cases hd : o.dst <;> simp_all [St.fits, St.more]
          · simp only [Tm.den, At.den, List.append_assoc]
            rw [← hM.nn, List.getD_eq_getElem?_getD, List.getElem?_append_right (Nat.le_refl _)]
            simp
        · cases ht1
      | appk ik e sz by' s x =>
        simp only [outK, force_eq] at ht1
        split at ht1
        · rename_i hn
          obtain ⟨hn1, hn2⟩ := hn
          obtain ⟨t2, ht2, rfl⟩ := Option.map_eq_some_iff.1 ht1
          obtain ⟨hik, hs1⟩ := hs1
          obtain ⟨n, xs, ad, m, c, news, h1, h2, h3, h4, h5, h6, h7, h8⟩ := hs1 w hlr
          rw [At.den_noP hn1 ρ [] β] at h1 h8
          rw [At.den_noP hn2 ρ [] β] at h2
          obtain ⟨t, ty, i, z, g1, g2, g3, rfl, rfl, g6, g7, g8, hrun⟩ := hok0
          obtain ⟨v', w', hr, hO', hA⟩ := run_app w hO.wf hM.le t ty e i z g1 g2 g3 g6 g7 (fun u hu => ⟨(g8 u hu).1, fun K n e => by rw [(g8 u hu).2 K n e]; exact hik⟩) _ n xs h1 ad m c news h3 h4 h5 h6 h7
          rw [hrun w.toWorld v' w'.toWorld (by rw [h2]; exact hr)]
          have hm := (hM.keepO (w' := w'.toWorld) (fun g hg => hA.keepO g (hO.own g hg)) hA.b).more [v']
          refine ⟨w', _, _, _, _, rfl, ht2, hX.put (hX.more hx [v']) _ _, hW.trans hA.toLf, ⟨fun g hg => by rw [hA.ownEq]; exact hO.own g hg, hA.wf⟩, hm.put ?_ (fun l' m' => ?_), h8 v' w' hA hO'⟩
          · cases hd : o.dst <;> simp_all [St.fits, St.more]
          · simp only [Tm.den, At.den, List.append_assoc]
            rw [← hM.nn, List.getD_eq_getElem?_getD, List.getElem?_append_right (Nat.le_refl _)]
            simp
        · cases ht1
    · cases ht
  · cases ht
theorem skip_sound {σ : St} {ρ : List Value} {β : List Nat} {a : Act} {w : OW} {d : Option Nat} {K : St → Option Tree} {t : Tree} (hX : Closed stable X) (hM : M w0 σ ρ β a w.toWorld) (hO : Ow w0 β w) (hW : Lf w0 W w) (hx : X σ ρ β) (ht : skipK σ d K = some t) (hs : satB P w0 R Pn Bk t ρ w) :
    Good P w0 R Pn Bk X W K (a.put d undef) w.toWorld := by
  unfold skipK at ht
  simp only [force_eq] at ht
  split at ht
  · rename_i hf
    exact ⟨w, _, _, _, _, rfl, ht, hX.put hx _ _, hW, hO, hM.del hf, hs⟩
  · cases ht
/-- The test of such a choice. -/
theorem pickJ_ext {ρ : List Value} {β : List Nat} {j : Nat} {b : Bool} (hb : (At.lf j).den ρ [] = .bool b) : ∀ l m, (At.lf j).den (ρ ++ l) (β ++ m) = .bool b := by
  intro l m
  simp only [At.den] at hb ⊢
  rw [lf_ext (by rw [hb]; simp [undef]) l]
  exact hb
theorem pstep_sound {σ : St} {ρ : List Value} {β : List Nat} {a : Act} {w : OW} {o : Oper} {K : St → Option Tree} {t : Tree} {Q : Exit → Act → World → Prop} (hX : Closed stable X)
    (hM : M w0 σ ρ β a w.toWorld) (hO : Ow w0 β w) (hW : Lf w0 W w) (hx : X σ ρ β) (ht : pstep P es stable σ o K = some t) (hs : satB P w0 R Pn Bk t ρ w) (hQ : ∀ c a w, DfOk w0 a → Pn c w → BelowF w0 w → Q (.panic c) a w) :
    o.wp P a w.toWorld (Good P w0 R Pn Bk X W K) Q := by
  unfold pstep at ht
  simp only [force_eq] at ht
  split at ht
  · exact stepK_sound hX hM hO hW hx ht hs hQ
  · rename_i j hj
    split at ht
    · rename_i t1 e1 h1 h2
      injection ht with ht
      subst ht
      obtain ⟨b, hb, k1, k2⟩ := hs
      have hext := pickJ_ext (β := β) hb
      cases b with
      | true => exact stepK_sound hX (hM.know hext) hO hW (hX.know hx _ _) h1 (k1 rfl) hQ
      | false => exact stepK_sound hX (hM.know hext) hO hW (hX.know hx _ _) h2 (k2 rfl) hQ
    · cases ht
end
end Sx
end Go.Proofs.Ytpkfjfpknbhekaa
namespace Go.Proofs.Ytpkfjfpknbhekaa
open Go.RowKit
namespace Sx
section
variable (P : Program) (es stable : List Nat) (ops : Array Oper)
def exL : List Oper → St → (St → Option Tree) → Option Tree
  | [], σ, K => K σ
  | o :: r, σ, K => gstep P es stable ops σ o (fun σ' => exL r σ' K)
end
section
variable (P : Program) (es stable : List Nat) (ops : Array Oper)
/-- It yields its value in every world in which the stable variables are as they were. -/
def quietOut (cl : Bool) (σ : St) (o : Oper) : Bool :=
  match outOf P σ o with
  | some (_, .val _) => true
  | some (_, .prim _ _) => true
  | some (_, .load b _) => stable.contains b
  | some (_, .fload _ _ _) => cl && !(es.contains mutM)
  | some (_, .conv _ _ _) => cl && !(es.contains mutM)
  | _ => false
def quietP (cl : Bool) (σ : St) (o : Oper) : Bool :=
  match pickJ σ o with
  | none => quietOut P es stable cl σ o
  | some j => quietOut P es stable cl (σ.know (.lf j) true) o && quietOut P es stable cl (σ.know (.lf j) false) o
def takeB (cl : Bool) (σ : St) (o : Oper) : Bool :=
  match o.guard with
  | none => quietP P es stable cl σ o
  | some (j, want) => match ((ops[j]?).bind (·.dst)).bind σ.get with
    | some (.one x) => match σ.boolOf x with
      | some b => if b = want then quietP P es stable cl σ o else true
      | none => quietP P es stable cl (σ.know x want) o
    | some (.tup []) => true
    | _ => false
def altHas (x : Tree) : Tree → Bool
  | .alt a b => altHas x a || altHas x b
  | y => decide (x = y)
/-- Each way once. -/
def both : Tree → Tree → Tree
  | .alt a b, y => both a (both b y)
  | x, y => if altHas x y then y else .alt x y
def allEq : List (Option Tree) → Option Tree
  | [] => none
  | [x] => x
  | x :: r => match x, allEq r with
    | some x, some y => some (both x y)
    | _, _ => none
end
/-- An operation that has not come up yet: its number, what it waits for, whom it must let go first if it is to be taken first. -/
structure Ent where
  j : Nat
  o : Oper
  am : List Nat
  cf : List Nat
def waitsOn (o : Oper) (i : Nat) : Bool := o.after.any fun e => Region.binds .any e && e.on == i
def confl (ops : Array Oper) (i : Nat) (oi : Oper) : List Nat := (ops.toList.zipIdx.filter fun q => !(q.2 == i || waitsOn q.1 i || oi.apart ops q.1)).map (·.2)
def preds (o : Oper) : List Nat := (o.after.toList.filter (Region.binds .any)).map (·.on)
def entsOf (ops : Array Oper) : List Ent := ops.toList.zipIdx.map fun q => ⟨q.2, q.1, preds q.1, confl ops q.2 q.1⟩
def forceE {β : Type} : List Ent → (List Ent → β) → β
  | [], k => k []
  | ⟨j, o, am, cf⟩ :: r, k => forceN j fun j => forceL am fun am => forceL cf fun cf => forceE r fun r' => k (⟨j, o, am, cf⟩ :: r')
theorem forceE_eq {β : Type} : ∀ (l : List Ent) (k : List Ent → β), forceE l k = k l
  | [], _ => rfl
  | ⟨_, _, _, _⟩ :: r, k => by simp only [forceE, forceN_eq, forceL_eq]; rw [forceE_eq r]
def readyE (e : Ent) (L : Nat) : Bool := e.am.all fun x => L.testBit x
def freeE (e : Ent) (L : Nat) : Bool := e.cf.all fun x => L.testBit x
def pickT (f : Ent → Bool) : List Ent → Option (Ent × List Ent)
  | [] => none
  | e :: r => if f e then some (e, r) else match pickT f r with
    | some (x, r') => some (x, e :: r')
    | none => none
def picks (f : Ent → Bool) : List Ent → List (Ent × List Ent)
  | [] => []
  | e :: r => if f e then (e, r) :: (picks f r).map (fun q => (q.1, e :: q.2)) else (picks f r).map (fun q => (q.1, e :: q.2))
section
variable (P : Program) (es stable : List Nat) (ops : Array Oper)
def exM : Nat → List Ent → Nat → Bool → St → (St → Option Tree) → Option Tree
  | 0, cand, _, _, σ, K => match cand with
    | [] => K σ
    | _ => none
  | n + 1, cand, L, cl, σ, K => match cand with
    | [] => K σ
    | c :: cs => match pickT (fun e => readyE e L && freeE e L && takeB P es stable ops cl σ e.o) (c :: cs) with
      | some (e, r) => gstep P es stable ops σ e.o (fun σ' => forceN (L ||| 2 ^ e.j) fun L' => exM n r L' cl σ' K)
      | none => allEq ((picks (fun e => readyE e L) (c :: cs)).map fun q => gstep P es stable ops σ q.1.o (fun σ' => forceN (L ||| 2 ^ q.1.j) fun L' => exM n q.2 L' true σ' K))
def exDraw (σ : St) (K : St → Option Tree) : Option Tree := forceE (entsOf ops) fun l => exM P es stable ops ops.size l 0 true σ K
end
/-- The variable that an address lies in: known, or a field's of a known one. -/
def boxOf (σ : St) (ops : Array Oper) (x : Operand) : Option Nat :=
  match σ.evAt x with
  | some (.ptr b _) => some b
  | _ => match x with
    | .tmp t => match ops.toList.find? (fun o => o.dst == some t) with
      | some o => match o.op with
        | .fieldAddr _ y _ => match σ.evAt y with
          | some (.ptr b _) => some b
          | _ => none
        | _ => none
      | none => none
    | _ => none
def stableOf (σ : St) (ops : Array Oper) : List Nat :=
  (List.range σ.bx.length).filter fun b => !ops.any fun o => match o.op with
    | .store _ x _ => boxOf σ ops x == some b
    | _ => false
section
variable {P : Program} {w0 : Fr} {R : Value → World → Prop} {Pn : List PanicEntry → World → Prop} {Bk : Back} {ρ : List Value} {w : OW}
theorem altHas_sat {x : Tree} : ∀ {y : Tree}, altHas x y = true → satB P w0 R Pn Bk y ρ w → satB P w0 R Pn Bk x ρ w := by
  intro y
  fun_induction altHas x y with
  | case1 a b iha ihb =>
    intro h hs
    simp only [satB] at hs
    rw [Bool.or_eq_true] at h
    rcases h with h | h
    · exact iha h hs.1
    · exact ihb h hs.2
  | case2 y _ =>
    intro h hs
    rw [of_decide_eq_true h]
    exact hs
theorem both_sat {x y : Tree} (h : satB P w0 R Pn Bk (both x y) ρ w) : satB P w0 R Pn Bk x ρ w ∧ satB P w0 R Pn Bk y ρ w := by
  revert h
  fun_induction both x y with
  | case1 a b y ih1 ih2 =>
    intro h
    obtain ⟨h1, h2⟩ := ih2 h
    obtain ⟨h3, h4⟩ := ih1 h2
    simp only [satB]
    exact ⟨⟨h1, h3⟩, h4⟩
  | case2 x y _ hh =>
    intro h
    exact ⟨altHas_sat hh h, h⟩
  | case3 x y _ hh =>
    intro h
    simp only [satB] at h
    exact h
end
theorem allEq_spec {P : Program} {w0 : Fr} {R : Value → World → Prop} {Pn : List PanicEntry → World → Prop} {Bk : Back} {ρ : List Value} {w : OW} : ∀ {l : List (Option Tree)} {t : Tree}, allEq l = some t → satB P w0 R Pn Bk t ρ w → l ≠ [] ∧ ∀ y ∈ l, ∃ z, y = some z ∧ satB P w0 R Pn Bk z ρ w
  | [], t, h, _ => by cases h
  | [x], t, h, hs => by
    simp only [allEq] at h
    exact ⟨by simp, fun y hy => ⟨t, by rw [List.mem_singleton.1 hy, h], hs⟩⟩
  | x :: z :: r, t, h, hs => by
    simp only [allEq] at h
    cases x with
    | none => cases h
    | some x' =>
      cases e2 : allEq (z :: r) with
      | none => rw [e2] at h; cases h
      | some y' =>
        rw [e2] at h
        injection h with h
        subst h
        obtain ⟨h1, h2⟩ := both_sat hs
        obtain ⟨_, h3⟩ := allEq_spec e2 h2
        refine ⟨by simp, fun y hy => ?_⟩
        rcases List.mem_cons.1 hy with rfl | hy
        · exact ⟨x', rfl, h1⟩
        · exact h3 y hy
theorem wpAnyH_S {P : Program} {md : Region.Mode} {ops : Array Oper} {Q : Exit → Act → World → Prop} {S S' : World → Prop} (hS : ∀ w, S' w → S w) : ∀ (n : Nat) (listed : Array Bool) (a : Act) (w : World), wpAnyH P md ops Q S' n listed a w → wpAnyH P md ops Q S n listed a w
  | 0, _, _, _, h => h
  | n + 1, _, _, _, h => ⟨h.1, fun i hi => wpOp_mono (fun _ _ h' => ⟨hS _ h'.1, wpAnyH_S hS n _ _ _ h'.2⟩) (h.2 i hi)⟩
theorem pickT_perm {f : Ent → Bool} : ∀ {l : List Ent} {e : Ent} {r : List Ent}, pickT f l = some (e, r) → l.Perm (e :: r) ∧ f e = true
  | [], _, _, h => by cases h
  | x :: l, e, r, h => by
    simp only [pickT] at h
    split at h
    · rename_i hx
      injection h with h
      injection h with h1 h2
      subst h1 h2
      exact ⟨List.Perm.refl _, hx⟩
    · split at h
      · rename_i y r' hy
        injection h with h
        injection h with h1 h2
        subst h1 h2
        obtain ⟨h3, h4⟩ := pickT_perm hy
        exact ⟨(h3.cons x).trans (List.Perm.swap ..), h4⟩
      · cases h
theorem picks_perm {f : Ent → Bool} : ∀ {l : List Ent} {q : Ent × List Ent}, q ∈ picks f l → l.Perm (q.1 :: q.2) ∧ f q.1 = true
  | [], _, h => by cases h
  | x :: l, q, h => by
    have hm : ∀ q ∈ (picks f l).map (fun q => (q.1, x :: q.2)), (x :: l).Perm (q.1 :: q.2) ∧ f q.1 = true := by
      intro q hq
      obtain ⟨p, hp, rfl⟩ := List.mem_map.1 hq
      obtain ⟨h3, h4⟩ := picks_perm hp
      exact ⟨(h3.cons x).trans (List.Perm.swap ..), h4⟩
    simp only [picks] at h
    split at h
    · rename_i hx
      rcases List.mem_cons.1 h with rfl | h
      · exact ⟨List.Perm.refl _, hx⟩
      · exact hm q h
    · exact hm q h
theorem picks_all {f : Ent → Bool} {e : Ent} (hf : f e = true) : ∀ {l : List Ent}, e ∈ l → ∃ r, (e, r) ∈ picks f l
  | [], h => by cases h
  | x :: l, h => by
    by_cases hx : f x = true
    · simp only [picks, if_pos hx]
      rcases List.mem_cons.1 h with rfl | h
      · exact ⟨l, List.mem_cons_self ..⟩
      · obtain ⟨r, hr⟩ := picks_all hf h
        exact ⟨x :: r, List.mem_cons_of_mem _ (List.mem_map.2 ⟨_, hr, rfl⟩)⟩
    · simp only [picks, if_neg hx]
      rcases List.mem_cons.1 h with rfl | h
      · exact absurd hf hx
      · obtain ⟨r, hr⟩ := picks_all hf h
        exact ⟨x :: r, List.mem_map.2 ⟨_, hr, rfl⟩⟩
/-- The candidates are what has not come up. -/
structure Inv (ops : Array Oper) (cand : List Ent) (L : Nat) (listed : Array Bool) : Prop where
  sz : listed.size = ops.size
  bit : ∀ i, i < ops.size → listed.getD i true = L.testBit i
  far : ∀ i, ops.size ≤ i → L.testBit i = false
  ent : ∀ e ∈ cand, ops[e.j]? = some e.o ∧ e.am = preds e.o ∧ e.cf = confl ops e.j e.o ∧ listed.getD e.j true = false
  all : ∀ i, i < ops.size → listed.getD i true = false → ∃ e ∈ cand, e.j = i
  dis : cand.Pairwise fun x y => x.j ≠ y.j
theorem Inv.perm {ops : Array Oper} {cand cand' : List Ent} {L : Nat} {listed : Array Bool} (h : Inv ops cand L listed) (hp : cand.Perm cand') : Inv ops cand' L listed where
  sz := h.sz
  bit := h.bit
  far := h.far
  ent e he := h.ent e (hp.mem_iff.2 he)
  all i hi hu := by obtain ⟨e, he, hj⟩ := h.all i hi hu; exact ⟨e, hp.mem_iff.1 he, hj⟩
  dis := (hp.pairwise_iff (fun {x y} h => Ne.symm h)).1 h.dis
theorem lt_of_get {ops : Array Oper} {i : Nat} {o : Oper} (h : ops[i]? = some o) : i < ops.size := by
  rcases Nat.lt_or_ge i ops.size with h2 | h2
  · exact h2
  · rw [Array.getElem?_eq_none h2] at h; cases h
theorem Inv.next {ops : Array Oper} {e : Ent} {cand : List Ent} {L : Nat} {listed : Array Bool} (h : Inv ops (e :: cand) L listed) : Inv ops cand (L ||| 2 ^ e.j) (listed.setIfInBounds e.j true) := by
  have he := h.ent e (List.mem_cons_self ..)
  have hlt := lt_of_get he.1
  have hd := List.pairwise_cons.1 h.dis
  have hset : ∀ i, i ≠ e.j → (listed.setIfInBounds e.j true).getD i true = listed.getD i true := fun i hi => getD_set_ne true (fun h => hi h.symm)
  have hself : (listed.setIfInBounds e.j true).getD e.j true = true := by
    rw [Array.getD_eq_getD_getElem?, Array.getElem?_setIfInBounds_self_of_lt (by rw [h.sz]; exact hlt)]; rfl
  refine ⟨by simp [h.sz], fun i hi => ?_, fun i hi => ?_, fun x hx => ?_, fun i hi hu => ?_, hd.2⟩
  · by_cases hie : i = e.j
    · subst hie; rw [hself]; simp [Nat.testBit_or, Nat.testBit_two_pow_self]
    · rw [hset i hie, h.bit i hi, Nat.testBit_or, Nat.testBit_two_pow_of_ne (fun h => hie h.symm), Bool.or_false]
  · rw [Nat.testBit_or, h.far i hi, Nat.testBit_two_pow_of_ne (by omega)]; rfl
  · obtain ⟨h1, h2, h3, h4⟩ := h.ent x (List.mem_cons_of_mem _ hx)
    exact ⟨h1, h2, h3, by rw [hset x.j (fun h => hd.1 x hx h.symm)]; exact h4⟩
  · by_cases hie : i = e.j
    · subst hie; rw [hself] at hu; cases hu
    · rw [hset i hie] at hu
      obtain ⟨x, hx, hj⟩ := h.all i hi hu
      rcases List.mem_cons.1 hx with rfl | hx
      · exact absurd hj.symm hie
      · exact ⟨x, hx, hj⟩
theorem testBit_listed {ops : Array Oper} {cand : List Ent} {L : Nat} {listed : Array Bool} (h : Inv ops cand L listed) (i : Nat) : L.testBit i = listed.getD i false := by
  rcases Nat.lt_or_ge i ops.size with hi | hi
  · rw [← h.bit i hi, Array.getD_eq_getD_getElem?, Array.getD_eq_getD_getElem?, Array.getElem?_eq_getElem (by rw [h.sz]; exact hi)]
    rfl
  · rw [h.far i hi, Array.getD_eq_getD_getElem?, Array.getElem?_eq_none (by rw [h.sz]; exact hi)]
    rfl
theorem ready_iff {ops : Array Oper} {cand : List Ent} {L : Nat} {listed : Array Bool} (h : Inv ops cand L listed) {e : Ent} (he : e ∈ cand) : e.j ∈ Region.ready .any ops listed ↔ readyE e L = true := by
  obtain ⟨h1, h2, h3, h4⟩ := h.ent e he
  rw [mem_ready]
  unfold readyE
  rw [h2, List.all_eq_true]
  constructor
  · rintro ⟨_, o, ho, hall⟩ x hx
    rw [h1] at ho
    injection ho with ho
    subst ho
    unfold preds at hx
    obtain ⟨ed, hed, rfl⟩ := List.mem_map.1 hx
    obtain ⟨hm, hb⟩ := List.mem_filter.1 hed
    rw [testBit_listed h]
    exact hall ed (Array.mem_toList_iff.1 hm) hb
  · intro hall
    refine ⟨h4, e.o, h1, fun ed hed hb => ?_⟩
    have := hall ed.on (List.mem_map.2 ⟨ed, List.mem_filter.2 ⟨Array.mem_toList_iff.2 hed, hb⟩, rfl⟩)
    rw [testBit_listed h] at this
    exact this
theorem free_of {ops : Array Oper} {cand : List Ent} {L : Nat} {listed : Array Bool} (h : Inv ops cand L listed) {e : Ent} (he : e ∈ cand) (hf : freeE e L = true) : Region.free .any ops listed e.j = true := by
  obtain ⟨h1, h2, h3, h4⟩ := h.ent e he
  unfold Region.free
  rw [h1]
  simp only [List.all_eq_true]
  intro j hj
  have hj := List.mem_range.1 hj
  rw [Array.getElem?_eq_getElem hj]
  simp only
  unfold freeE at hf
  rw [h3, List.all_eq_true] at hf
  by_cases hc : (j == e.j || waitsOn ops[j] e.j || e.o.apart ops ops[j]) = true
  · simp only [Bool.or_eq_true] at hc ⊢
    rcases hc with (hc | hc) | hc
    · exact .inl (.inl hc)
    · exact .inr (.inl hc)
    · exact .inr (.inr hc)
  · have hm : j ∈ confl ops e.j e.o := by
      unfold confl
      refine List.mem_map.2 ⟨(ops[j], j), List.mem_filter.2 ⟨?_, by simpa using hc⟩, rfl⟩
      rw [List.mk_mem_zipIdx_iff_getElem?]
      simp [hj]
    have := hf j hm
    rw [testBit_listed h] at this
    have h5 : listed.getD j true = true := by
      rw [Array.getD_eq_getD_getElem?, Array.getElem?_eq_getElem (by rw [h.sz]; exact hj)] at this ⊢
      exact this
    simp [h5]
theorem inv_start (ops : Array Oper) : Inv ops (entsOf ops) 0 (Array.replicate ops.size false) where
  sz := by simp
  bit i hi := by simp [Array.getD_eq_getD_getElem?, hi]
  far i hi := by simp
  ent e he := by
    unfold entsOf at he
    obtain ⟨q, hq, rfl⟩ := List.mem_map.1 he
    have h1 := List.mk_mem_zipIdx_iff_getElem?.1 (show (q.1, q.2) ∈ ops.toList.zipIdx from hq)
    have h2 : ops[q.2]? = some q.1 := by simpa using h1
    exact ⟨h2, rfl, rfl, by simp [Array.getD_eq_getD_getElem?, lt_of_get h2]⟩
  all i hi _ := by
    refine ⟨⟨i, ops[i], preds ops[i], confl ops i ops[i]⟩, List.mem_map.2 ⟨(ops[i], i), ?_, rfl⟩, rfl⟩
    rw [List.mk_mem_zipIdx_iff_getElem?]
    simp [hi]
  dis := by
    unfold entsOf
    rw [List.pairwise_map]
    rw [List.pairwise_iff_getElem]
    intro i j hi hj hij
    simp at hi hj
    simp
    omega
section
variable {P : Program} {w0 : Fr} {R : Value → World → Prop} {Pn : List PanicEntry → World → Prop} {Bk : Back} {W : OW} {es stable : List Nat} {X : St → List Value → List Nat → Prop} {ops : Array Oper}
  {σ : St} {ρ : List Value} {β : List Nat} {a : Act} {w : World} {o : Oper} {K : St → Option Tree} {t : Tree} {Q : Exit → Act → World → Prop}
theorem yield_of (hM : M w0 σ ρ β a w) {j : Nat} {x : At} (hx : ((ops[j]?).bind (·.dst)).bind σ.get = some (.one x)) {b : Bool} (hb : x.den ρ β = .bool b) :
    yielded ops a.tmps j = some b ∧ ∀ l m, x.den (ρ ++ l) (β ++ m) = .bool b := by
  obtain ⟨d, hd, hg⟩ := Option.bind_eq_some_iff.1 hx
  have h1 := hM.m0.tm d _ hg
  have h0 := hM.m0.at hg
  have h2 : ∀ l m, x.den (ρ ++ l) (β ++ m) = .bool b := fun l m => by
    have h3 := (h1 l m).symm.trans h0
    simp only [Tm.den, Option.some.injEq] at h3
    rw [h3]; exact hb
  refine ⟨?_, h2⟩
  unfold yielded
  rw [hd]
  simp only [Option.bind_some]
  rw [h0]
  simp only [Tm.den, hb]
theorem yield_none (hM : M w0 σ ρ β a w) {j : Nat} (hx : ((ops[j]?).bind (·.dst)).bind σ.get = some (.tup [])) : yielded ops a.tmps j = none := by
  obtain ⟨d, hd, hg⟩ := Option.bind_eq_some_iff.1 hx
  have h0 := hM.m0.at hg
  unfold yielded
  rw [hd]
  simp only [Option.bind_some]
  rw [h0]
  rfl
theorem gstep_sound {w : OW} (hX : Closed stable X) (hM : M w0 σ ρ β a w.toWorld) (hO : Ow w0 β w) (hW : Lf w0 W w) (hx : X σ ρ β) (ht : gstep P es stable ops σ o K = some t) (hs : satB P w0 R Pn Bk t ρ w) (hQ : ∀ c a w, DfOk w0 a → Pn c w → BelowF w0 w → Q (.panic c) a w) :
    if Region.wanted o (yielded ops a.tmps) then o.wp P a w.toWorld (Good P w0 R Pn Bk X W K) Q else Good P w0 R Pn Bk X W K (a.put o.dst undef) w.toWorld := by
  unfold gstep at ht
  simp only [force_eq] at ht
  split at ht
  · rename_i hg
    rw [if_pos (by simp [Region.wanted, hg])]
    exact pstep_sound hX hM hO hW hx ht hs hQ
  · rename_i j want hg
    split at ht
    · rename_i x hxg
      split at ht
      · rename_i b hb
        have hy := (yield_of (ops := ops) hM hxg (hM.m0.boolOf hb)).1
        split at ht
        · rename_i hbw
          rw [if_pos (by simp [Region.wanted, hg, hy, hbw])]
          exact pstep_sound hX hM hO hW hx ht hs hQ
        · rename_i hbw
          rw [if_neg (by simp [Region.wanted, hg, hy, hbw])]
          exact skip_sound hX hM hO hW hx ht hs
      · split at ht
        · rename_i hnp
          split at ht
          · rename_i t1 e1 h1 h2
            injection ht with ht
            have hsx : ∃ b, x.den ρ [] = .bool b ∧ (b = want → satB P w0 R Pn Bk t1 ρ w) ∧ (b ≠ want → satB P w0 R Pn Bk e1 ρ w) := by
              subst ht
              cases want with
              | true =>
                obtain ⟨b, hb, k1, k2⟩ := hs
                exact ⟨b, hb, k1, fun hn => k2 (by simpa using hn)⟩
              | false =>
                obtain ⟨b, hb, k1, k2⟩ := hs
                exact ⟨b, hb, k2, fun hn => k1 (by simpa using hn)⟩
            obtain ⟨b, hb, k1, k2⟩ := hsx
            rw [At.den_noP hnp ρ [] β] at hb
            obtain ⟨hy, hext⟩ := yield_of (ops := ops) hM hxg hb
            by_cases hbw : b = want
            · rw [if_pos (by simp [Region.wanted, hg, hy, hbw])]
              exact pstep_sound hX (hM.know (hbw ▸ hext)) hO hW (hX.know hx _ _) h1 (k1 hbw) hQ
            · rw [if_neg (by simp [Region.wanted, hg, hy, hbw])]
              have hb2 : b = !want := by cases b <;> cases want <;> simp_all
              exact skip_sound hX (hM.know (hb2 ▸ hext)) hO hW (hX.know hx _ _) h2 (k2 hbw)
          · cases ht
        · cases ht
    · rename_i hxg
      rw [if_neg (by simp [Region.wanted, hg, yield_none (ops := ops) hM hxg])]
      exact skip_sound hX hM hO hW hx ht hs
    · cases ht
theorem exL_sound (hX : Closed [] X) (hQ : ∀ c a w, DfOk w0 a → Pn c w → BelowF w0 w → Q (.panic c) a w) (hK : ∀ a w, Good P w0 R Pn Bk X W K a w → Q .normal a w) :
    ∀ (l : List Oper) (σ : St) (ρ : List Value) (β : List Nat) (a : Act) (w : OW) (t : Tree), M w0 σ ρ β a w.toWorld → Ow w0 β w → Lf w0 W w → X σ ρ β → exL P es [] ops l σ K = some t → satB P w0 R Pn Bk t ρ w → wpList P ops Q l a w.toWorld
  | [], σ, ρ, β, a, w, t, hM, hO, hW, hx, ht, hs => hK a w.toWorld ⟨w, σ, t, ρ, β, rfl, ht, hx, hW, hO, hM, hs⟩
  | o :: r, σ, ρ, β, a, w, t, hM, hO, hW, hx, ht, hs => by
    have h1 := gstep_sound hX hM hO hW hx ht hs hQ
    have hm : ∀ a w, Good P w0 R Pn Bk X W (fun σ' => exL P es [] ops r σ' K) a w → wpList P ops Q r a w := by
      rintro a w ⟨ow, σ', t', ρ', β', rfl, e1, e2, e3, e4, e5, e6⟩
      exact exL_sound hX hQ hK r σ' ρ' β' a ow t' e5 e4 e3 e2 e1 e6
    unfold wpList
    split
    · rename_i hw
      rw [if_pos hw] at h1
      exact .inl (Oper.wp_mono hm h1)
    · rename_i hw
      rw [if_neg hw] at h1
      exact hm _ _ h1

/-! A region that draws its order. -/
/-- The stable variables are as they were. -/
def Sta (stable : List Nat) (gf : Nat → Nat) (vf : Nat → List Value) (tf : Nat → TypeId) (σ : St) (ρ : List Value) (β : List Nat) : Prop :=
  ∀ b, stable.contains b = true → ∃ cs, σ.bx[b]? = some (tf b, cs) ∧ β[b]? = some (gf b) ∧ ∀ l m, denL (ρ ++ l) (β ++ m) cs = vf b
theorem closed_sta (stable : List Nat) (gf : Nat → Nat) (vf : Nat → List Value) (tf : Nat → TypeId) : Closed stable (Sta stable gf vf tf) where
  put h d v b hb := by obtain ⟨cs, h1, h2⟩ := h b hb; exact ⟨cs, by cases d <;> exact h1, h2⟩
  know h x c b hb := by cases x <;> exact h b hb
  more h l b hb := by
    obtain ⟨cs, h1, h2, h3⟩ := h b hb
    exact ⟨cs, h1, h2, fun l' m => by rw [List.append_assoc]; exact h3 _ _⟩
  new h ty cs' g b hb := by
    obtain ⟨cs, h1, h2, h3⟩ := h b hb
    refine ⟨cs, ?_, ?_, fun l' m => by rw [List.append_assoc]; exact h3 _ _⟩
    · simp only [St.new]; rw [List.getElem?_append_left (List.getElem?_eq_some_iff.1 h1).1]; exact h1
    · rw [List.getElem?_append_left (List.getElem?_eq_some_iff.1 h2).1]; exact h2
  setb h b' e hb' b hb := by
    obtain ⟨cs, h1, h2⟩ := h b hb
    have hne : b' ≠ b := fun e => by rw [e, hb] at hb'; cases hb'
    refine ⟨cs, ?_, h2⟩
    simp only [St.setb]
    rw [List.getElem?_set_ne hne]
    exact h1
/-- A world of the region: the stable variables, and what is not the call's own, are as they were. -/
def StaW (stable : List Nat) (gf : Nat → Nat) (vf : Nat → List Value) (tf : Nat → TypeId) (w0 : Fr) (W : OW) (w : World) : Prop := (∀ b, stable.contains b = true → Box w (gf b) (vf b) (tf b)) ∧ ∃ o bl, Lf w0 W ⟨w, o, bl⟩
theorem sta_w {gf : Nat → Nat} {vf : Nat → List Value} {tf : Nat → TypeId} {w : OW} (hM : M w0 σ ρ β a w.toWorld) (hW : Lf w0 W w) (h : Sta stable gf vf tf σ ρ β) : StaW stable gf vf tf w0 W w.toWorld := by
  refine ⟨fun b hb => ?_, w.own, w.bld, hW⟩
  obtain ⟨cs, h1, h2, h3⟩ := h b hb
  obtain ⟨g, vs, e1, e2, e3, _⟩ := hM.m0.bx b _ h1
  rw [h2] at e1
  injection e1 with e1
  subst e1
  have : vs = vf b := (e2 [] []).symm.trans (h3 [] [])
  subst this
  exact e3
/-- What follows is shown, in the very world. -/
def GoodAt (P : Program) (w0 : Fr) (R : Value → World → Prop) (Pn : List PanicEntry → World → Prop) (Bk : Back) (X : St → List Value → List Nat → Prop) (W : OW) (K : St → Option Tree) (a : Act) (w : OW) : Prop :=
  ∃ (σ : St) (t : Tree) (ρ : List Value) (β : List Nat), K σ = some t ∧ X σ ρ β ∧ Lf w0 W w ∧ Ow w0 β w ∧ M w0 σ ρ β a w.toWorld ∧ satB P w0 R Pn Bk t ρ w
theorem skip_at {w : OW} {d : Option Nat} (hX : Closed stable X) (hM : M w0 σ ρ β a w.toWorld) (hO : Ow w0 β w) (hW : Lf w0 W w) (hx : X σ ρ β) (ht : skipK σ d K = some t) (hs : satB P w0 R Pn Bk t ρ w) :
    GoodAt P w0 R Pn Bk X W K (a.put d undef) w := by
  unfold skipK at ht
  simp only [force_eq] at ht
  split at ht
  · rename_i hf
    exact ⟨_, _, _, _, ht, hX.put hx _ _, hW, hO, hM.del hf, hs⟩
  · cases ht
theorem stepK_take {gf : Nat → Nat} {vf : Nat → List Value} {tf : Nat → TypeId} {w : OW} {cl : Bool} (hX : Closed stable X) (hxs : X σ ρ β → Sta stable gf vf tf σ ρ β) (hM : M w0 σ ρ β a w.toWorld) (hO : Ow w0 β w) (hW : Lf w0 W w) (hcl : cl = true → w = W) (hx : X σ ρ β) (hq : quietOut P es stable cl σ o = true) (ht : stepK P es stable σ o K = some t) (hs : satB P w0 R Pn Bk t ρ w) :
    ∃ v, (∀ w', StaW stable gf vf tf w0 W w' → (execOp a.eval o).run P w' = .ok (.value v) w') ∧ GoodAt P w0 R Pn Bk X W K (a.put o.dst v) w := by
  have hSw := sta_w hM hW (hxs hx)
  unfold stepK at ht
  unfold quietOut at hq
  split at ht
  · rename_i k out hout
    rw [hout] at hq
    split at ht
    · rename_i hc
      obtain ⟨hf, hk⟩ := hc
      obtain ⟨t1, ht1, rfl⟩ := Option.map_eq_some_iff.1 ht
      have hks : (∀ x ∈ k, LeafOk (x.den ρ [])) ∧ satB P w0 R Pn Bk t1 ρ w := by
        cases k with
        | nil => exact ⟨fun x hx => (by cases hx), hs⟩
        | cons y r => exact hs
      obtain ⟨hk1, hs1⟩ := hks
      have hkm : ∀ l m, ∀ x ∈ k, LeafOk (x.den (ρ ++ l) (β ++ m)) := fun l m x hx => by
        rw [leaf_ext (List.all_eq_true.1 hk x hx) (hk1 x hx) l]
        exact hk1 x hx
      have hok := fun l m => out_sound (hM.m0.ext l m) hout (hkm l m)
      have hok0 : OutOk P σ ρ β a o out := by
        have := hok [] []
        simpa using this
      cases out with
      | val v =>
        simp only [outK, force_eq, forceTm_eq] at ht1
        have h0 : ∀ w, _ := hok0
        refine ⟨_, fun w' _ => h0 w', _, _, _, _, ht1, hX.put hx _ _, hW, hO, hM.put hf (fun l m => ?_), hs1⟩
        have h1 : ∀ w, _ := hok l m
        exact ok_inj ((h0 w.toWorld).symm.trans (h1 w.toWorld))
      | load b v =>
        simp only at hq
        simp only [outK, force_eq, forceTm_eq] at ht1
        have h0 : ∀ e g w, _ := hok0
        obtain ⟨cs, h1, h2, h3⟩ := hxs hx b hq
        split at ht1
        case h_2 => cases ht1
        have e3 := h3 [] []
        simp only [List.append_nil] at e3
        have hrun : ∀ w', StaW stable gf vf tf w0 W w' → (execOp a.eval o).run P w' = .ok (.value (v.den ρ β)) w' := fun w' hw' => h0 _ _ w' h1 h2 (by simp only [e3]; exact hw'.1 b hq)
        refine ⟨_, hrun, _, _, _, _, ht1, hX.put hx _ _, hW, hO, hM.put hf (fun l m => ?_), hs1⟩
        have h4 : ∀ e g w, _ := hok l m
        refine ok_inj ((hrun w.toWorld hSw).symm.trans (h4 _ (gf b) w.toWorld h1 ?_ ?_))
        · rw [List.getElem?_append_left (List.getElem?_eq_some_iff.1 h2).1]; exact h2
        · simp only [h3]; exact hSw.1 b hq
      | new ty cs => simp at hq
      | store b off ls => simp at hq
      | prim p args =>
        simp only [outK, force_eq] at ht1
        split at ht1
        · rename_i hn
          obtain ⟨t2, ht2, rfl⟩ := Option.map_eq_some_iff.1 ht1
          obtain ⟨v, hv, hs2⟩ := hs1
          rw [denL_ext (β := β) hn] at hv
          have h0 : ∀ v, _ → ∀ w, _ := hok0
          have hm := hM.more [v]
          refine ⟨_, fun w' _ => h0 v hv w', _, _, _, _, ht2, hX.put (hX.more hx [v]) _ _, hW, hO, hm.put ?_ (fun l m => ?_), hs2⟩
          · cases hd : o.dst <;> simp_all [St.fits, St.more]
          · simp only [Tm.den, At.den, List.append_assoc]
            rw [← hM.nn, List.getD_eq_getElem?_getD, List.getElem?_append_right (Nat.le_refl _)]
            simp
        · cases ht1
      | call f args sh => simp at hq
      | row e cs n k1 => simp at hq
      | fload ty x sh =>
        simp only [Bool.and_eq_true, Bool.not_eq_true'] at hq
        obtain ⟨hq, hmm⟩ := hq
        have hwW := hcl hq
        subst hwW
        simp only [outK, force_eq, forceTm_eq] at ht1
        split at ht1
        · rename_i hn
          rw [if_neg (by rw [hmm]; simp)] at ht1
          obtain ⟨t2, ht2, rfl⟩ := Option.map_eq_some_iff.1 ht1
          obtain ⟨l, ad, hl, had, hrun, hs2⟩ := hs1
          rw [At.den_noP hn ρ [] β] at had
          have h0 : ∀ w ad v, _ → _ → _ := hok0
          have hm := hM.more l
          rw [hl] at hm
          have hx2 := hX.more hx l
          rw [hl] at hx2
          refine ⟨sh.val l, fun w' hw' => ?_, _, _, _, _, ht2, hX.put hx2 _ _, hW, hO, hm.put ?_ (fun l' m => ?_), hs2⟩
          · obtain ⟨_, o', bl, hL⟩ := hw'
            exact h0 w' ad _ had (hrun _ hL)
          · cases hd : o.dst <;> simp_all [St.fits, St.more]
          · rw [← hM.nn]; exact (sh_den ρ l l' (β ++ m) sh hl).symm
        · cases ht1
      | app e sz by' s x => simp at hq
      | appk ik e sz by' s x => simp at hq
      | fst ty x v => simp at hq
      | callv x args sh => simp at hq
      | pan x => simp at hq
      | conv src dst x =>
        simp only [Bool.and_eq_true, Bool.not_eq_true'] at hq
        obtain ⟨hq, hmm⟩ := hq
        have hwW := hcl hq
        subst hwW
        simp only [outK, force_eq] at ht1
        split at ht1
        · rename_i hn
          rw [if_neg (by rw [hmm]; simp)] at ht1
          obtain ⟨t2, ht2, rfl⟩ := Option.map_eq_some_iff.1 ht1
          obtain ⟨v, hv, hs2⟩ := hs1
          have h0 : ∀ w v, _ → _ := hok0
          have hm := hM.more [v]
          refine ⟨v, fun w' hw' => ?_, _, _, _, _, ht2, hX.put (hX.more hx [v]) _ _, hW, hO, hm.put ?_ (fun l m => ?_), hs2⟩
          · obtain ⟨_, o', bl, hL⟩ := hw'
            have hv1 := hv _ hL
            rw [At.den_noP hn ρ [] β] at hv1
            exact h0 w' v hv1
          · cases hd : o.dst <;> simp_all [St.fits, St.more]
          · simp only [Tm.den, At.den, List.append_assoc]
            rw [← hM.nn, List.getD_eq_getElem?_getD, List.getElem?_append_right (Nat.le_refl _)]
            simp
        · cases ht1
    · cases ht
  · cases ht
theorem pstep_take {gf : Nat → Nat} {vf : Nat → List Value} {tf : Nat → TypeId} {w : OW} {cl : Bool} (hX : Closed stable X) (hxs : ∀ {σ ρ β}, X σ ρ β → Sta stable gf vf tf σ ρ β) (hM : M w0 σ ρ β a w.toWorld) (hO : Ow w0 β w) (hW : Lf w0 W w) (hcl : cl = true → w = W) (hx : X σ ρ β) (hq : quietP P es stable cl σ o = true) (ht : pstep P es stable σ o K = some t) (hs : satB P w0 R Pn Bk t ρ w) :
    ∃ v, (∀ w', StaW stable gf vf tf w0 W w' → (execOp a.eval o).run P w' = .ok (.value v) w') ∧ GoodAt P w0 R Pn Bk X W K (a.put o.dst v) w := by
  unfold pstep at ht
  unfold quietP at hq
  simp only [force_eq] at ht
  split at ht
  · rename_i hj
    rw [hj] at hq
    exact stepK_take hX hxs hM hO hW hcl hx hq ht hs
  · rename_i j hj
    rw [hj] at hq
    simp only [Bool.and_eq_true] at hq
    split at ht
    · rename_i t1 e1 h1 h2
      injection ht with ht
      subst ht
      obtain ⟨b, hb, k1, k2⟩ := hs
      have hext := pickJ_ext (β := β) hb
      cases b with
      | true => exact stepK_take hX hxs (hM.know hext) hO hW hcl (hX.know hx _ _) hq.1 h1 (k1 rfl)
      | false => exact stepK_take hX hxs (hM.know hext) hO hW hcl (hX.know hx _ _) hq.2 h2 (k2 rfl)
    · cases ht
theorem know_fits {σ : St} {x : At} {b : Bool} {d : Option Nat} : (σ.know x b).fits d = σ.fits d := by cases x <;> rfl
theorem stepK_fits {σ : St} {o : Oper} {K : St → Option Tree} {t : Tree} (h : stepK P es stable σ o K = some t) : σ.fits o.dst = true := by
  unfold stepK at h
  split at h
  · split at h
    · rename_i hc; exact hc.1
    · cases h
  · cases h
theorem pstep_fits {σ : St} {o : Oper} {K : St → Option Tree} {t : Tree} (h : pstep P es stable σ o K = some t) : σ.fits o.dst = true := by
  unfold pstep at h
  simp only [force_eq] at h
  split at h
  · exact stepK_fits h
  · split at h
    · rename_i h1 h2
      rw [← know_fits]
      exact stepK_fits h1
    · cases h
theorem skipK_fits {σ : St} {d : Option Nat} {K : St → Option Tree} {t : Tree} (h : skipK σ d K = some t) : σ.fits d = true := by
  unfold skipK at h
  split at h
  · assumption
  · cases h
theorem gstep_fits {σ : St} {o : Oper} {K : St → Option Tree} {t : Tree} (h : gstep P es stable ops σ o K = some t) : σ.fits o.dst = true := by
  unfold gstep at h
  simp only [force_eq] at h
  split at h
  · exact pstep_fits h
  · split at h
    · split at h
      · split at h
        · exact pstep_fits h
        · exact skipK_fits h
      · split at h
        · split at h
          · rename_i h1 h2
            rw [← know_fits]
            exact pstep_fits h1
          · cases h
        · cases h
    · exact skipK_fits h
    · cases h
theorem gstep_take {gf : Nat → Nat} {vf : Nat → List Value} {tf : Nat → TypeId} {w : OW} {cl : Bool} (hX : Closed stable X) (hxs : ∀ {σ ρ β}, X σ ρ β → Sta stable gf vf tf σ ρ β) (hM : M w0 σ ρ β a w.toWorld) (hO : Ow w0 β w) (hW : Lf w0 W w) (hcl : cl = true → w = W) (hx : X σ ρ β) (hq : takeB P es stable ops cl σ o = true) (ht : gstep P es stable ops σ o K = some t) (hs : satB P w0 R Pn Bk t ρ w) :
    ∃ v, YieldsIf P ops (StaW stable gf vf tf w0 W) o v a ∧ GoodAt P w0 R Pn Bk X W K (a.put o.dst v) w := by
  unfold gstep at ht
  simp only [force_eq] at ht
  unfold takeB at hq
  split at ht
  · rename_i hg
    rw [hg] at hq
    obtain ⟨v, h1, h2⟩ := pstep_take hX hxs hM hO hW hcl hx hq ht hs
    exact ⟨v, .inl ⟨by simp [Region.wanted, hg], h1⟩, h2⟩
  · rename_i j want hg
    rw [hg] at hq
    simp only at hq
    split at ht
    · rename_i x hxg
      rw [hxg] at hq
      simp only at hq
      split at ht
      · rename_i b hb
        have hy := (yield_of (ops := ops) hM hxg (hM.m0.boolOf hb)).1
        rw [hb] at hq
        simp only at hq
        split at ht
        · rename_i hbw
          rw [if_pos hbw] at hq
          obtain ⟨v, h1, h2⟩ := pstep_take hX hxs hM hO hW hcl hx hq ht hs
          exact ⟨v, .inl ⟨by simp [Region.wanted, hg, hy, hbw], h1⟩, h2⟩
        · rename_i hbw
          exact ⟨undef, .inr ⟨by simp [Region.wanted, hg, hy, hbw], rfl⟩, skip_at hX hM hO hW hx ht hs⟩
      · rename_i hbn
        rw [hbn] at hq
        simp only at hq
        split at ht
        · rename_i hnp
          split at ht
          · rename_i t1 e1 h1 h2
            injection ht with ht
            have hsx : ∃ b, x.den ρ [] = .bool b ∧ (b = want → satB P w0 R Pn Bk t1 ρ w) ∧ (b ≠ want → satB P w0 R Pn Bk e1 ρ w) := by
              subst ht
              cases want with
              | true =>
                obtain ⟨b, hb, k1, k2⟩ := hs
                exact ⟨b, hb, k1, fun hn => k2 (by simpa using hn)⟩
              | false =>
                obtain ⟨b, hb, k1, k2⟩ := hs
                exact ⟨b, hb, k2, fun hn => k1 (by simpa using hn)⟩
            obtain ⟨b, hb, k1, k2⟩ := hsx
            rw [At.den_noP hnp ρ [] β] at hb
            obtain ⟨hy, hext⟩ := yield_of (ops := ops) hM hxg hb
            by_cases hbw : b = want
            · obtain ⟨v, h3, h4⟩ := pstep_take hX hxs (hM.know (hbw ▸ hext)) hO hW hcl (hX.know hx _ _) hq h1 (k1 hbw)
              exact ⟨v, .inl ⟨by simp [Region.wanted, hg, hy, hbw], h3⟩, h4⟩
            · have hb2 : b = !want := by cases b <;> cases want <;> simp_all
              exact ⟨undef, .inr ⟨by simp [Region.wanted, hg, hy, hbw], rfl⟩, skip_at hX (hM.know (hb2 ▸ hext)) hO hW (hX.know hx _ _) h2 (k2 hbw)⟩
          · cases ht
        · cases ht
    · rename_i hxg
      exact ⟨undef, .inr ⟨by simp [Region.wanted, hg, yield_none (ops := ops) hM hxg], rfl⟩, skip_at hX hM hO hW hx ht hs⟩
    · cases ht
theorem exM_sound {gf : Nat → Nat} {vf : Nat → List Value} {tf : Nat → TypeId} (hX : Closed stable X) (hxs : ∀ {σ ρ β}, X σ ρ β → Sta stable gf vf tf σ ρ β) (hsel : Region.noSelect ops = true) (hQ : ∀ c a w, DfOk w0 a → Pn c w → BelowF w0 w → Q (.panic c) a w) (hPf : ∀ c d v a w, (∀ t, d = some t → ∀ q ∈ w0.pn, q.1 ≠ t) → Q (.panic c) (a.put d v) w → Q (.panic c) a w)
    (hK : ∀ a w, Good P w0 R Pn Bk X W K a w → Q .normal a w) :
    ∀ (n : Nat) (cand : List Ent) (L : Nat) (listed : Array Bool) (σ : St) (ρ : List Value) (β : List Nat) (a : Act) (W' : OW) (t : Tree), Inv ops cand L listed → M w0 σ ρ β a W'.toWorld → Ow w0 β W' → Lf w0 W W' → Lf w0 W' W' → X σ ρ β → exM P es stable ops n cand L true σ K = some t → satB P w0 R Pn Bk t ρ W' →
      wpAnyH P .any ops Q (StaW stable gf vf tf w0 W') n listed a W'.toWorld := by
  have hnil : ∀ (L : Nat) (listed : Array Bool), Inv ops [] L listed → Region.ready .any ops listed = [] := fun L listed hI => by
    rw [List.eq_nil_iff_forall_not_mem]
    intro i hi
    obtain ⟨hu, o, ho, _⟩ := mem_ready.1 hi
    obtain ⟨e, he, _⟩ := hI.all i (lt_of_get ho) hu
    cases he
  intro n
  induction n with
  | zero =>
    intro cand L listed σ ρ β a w t hI hM hO hW hR hx ht hs
    unfold exM at ht
    split at ht
    · exact ⟨hnil _ _ hI, hK a w.toWorld ⟨w, σ, t, ρ, β, rfl, ht, hx, hW, hO, hM, hs⟩⟩
    · cases ht
  | succ n ih =>
    intro cand L listed σ ρ β a w t hI hM hO hW hR hx ht hs
    unfold exM at ht
    split at ht
    · exact wpAnyH_done (hnil _ _ hI) (hK a w.toWorld ⟨w, σ, t, ρ, β, rfl, ht, hx, hW, hO, hM, hs⟩) _
    · rename_i c cs
      simp only [forceN_eq] at ht
      have hm : ∀ e r, Inv ops (e :: r) L listed → ∀ a w1, Good P w0 R Pn Bk X w (fun σ' => exM P es stable ops n r (L ||| 2 ^ e.j) true σ' K) a w1 → StaW stable gf vf tf w0 w w1 ∧ wpAnyH P .any ops Q (StaW stable gf vf tf w0 w) n (listed.setIfInBounds e.j true) a w1 := by
        rintro e r hI2 a w1 ⟨ow, σ', t', ρ', β', rfl, e1, e2, e3, e4, e5, e6⟩
        refine ⟨sta_w e5 e3 (hxs e2), wpAnyH_S (fun w2 h2 => ?_) _ _ _ _ (ih _ _ _ σ' ρ' β' a ow t' hI2.next e5 e4 (hW.trans e3) (Le.refl e4.wf e5.le).toLf e2 e1 e6)⟩
        obtain ⟨k1, o', bl, hL⟩ := h2
        exact ⟨k1, o', bl, e3.trans hL⟩
      split at ht
      · rename_i e r hp
        obtain ⟨hperm, hf⟩ := pickT_perm hp
        simp only [Bool.and_eq_true] at hf
        obtain ⟨⟨hr, hfr⟩, htk⟩ := hf
        have hI2 := hI.perm hperm
        have hmem : e ∈ c :: cs := hperm.mem_iff.2 (List.mem_cons_self ..)
        obtain ⟨v, h1, σ', t', ρ', β', e1, e2, e3, e4, e5, e6⟩ := gstep_take hX hxs hM hO hR (fun _ => rfl) hx htk ht hs
        exact wpAnyH_take (hI.ent e hmem).1 hsel (free_of hI hmem hfr) (List.contains_iff_mem.2 ((ready_iff hI hmem).2 hr)) (fun c a w h => hPf c _ _ a w (fun t0 ht0 q hq e0 => by
          have hft := gstep_fits ht
          rw [ht0] at hft
          simp only [St.fits, Bool.and_eq_true, Bool.not_eq_true'] at hft
          have h9 := List.contains_iff_mem.2 (hM.df.2 q hq).1
          rw [e0, hft.2] at h9
          cases h9) h) h1 (sta_w hM hR (hxs hx)) (ih _ _ _ σ' ρ' β' _ w t' hI2.next e5 e4 hW e3 e2 e1 e6)
      · obtain ⟨hne, hall⟩ := allEq_spec ht hs
        refine ⟨fun h0 => ?_, fun i hi => ?_⟩
        · obtain ⟨y, hy⟩ := List.exists_mem_of_ne_nil _ hne
          obtain ⟨q, hq, _⟩ := List.mem_map.1 hy
          obtain ⟨hperm, hf⟩ := picks_perm hq
          have hmem : q.1 ∈ c :: cs := hperm.mem_iff.2 (List.mem_cons_self ..)
          have := (ready_iff hI hmem).2 hf
          rw [h0] at this
          cases this
        · obtain ⟨hu, o, ho, _⟩ := mem_ready.1 hi
          obtain ⟨e, he, rfl⟩ := hI.all i (lt_of_get ho) hu
          obtain ⟨r, hr⟩ := picks_all (f := fun e => readyE e L) ((ready_iff hI he).1 hi) he
          obtain ⟨t1, h1, hs1⟩ := hall _ (List.mem_map.2 ⟨_, hr, rfl⟩)
          obtain ⟨hperm, hf⟩ := picks_perm hr
          have hI2 := hI.perm hperm
          have h2 := gstep_sound hX hM hO hR hx h1 hs1 hQ
          unfold wpOp
          rw [(hI.ent e he).1]
          simp only
          split
          · rename_i hw
            rw [if_pos hw] at h2
            exact .inl (Oper.wp_mono (hm e r hI2) h2)
          · rename_i hw
            rw [if_neg hw] at h2
            exact hm e r hI2 _ _ h2
/-- A region that draws its order. -/
theorem exDraw_sound {id : Nat} {w : OW} (hX : Closed [] X) (hm : P.follows .mixedOrders = true) (hsel : Region.noSelect ops = true) (hQ : ∀ c a w, DfOk w0 a → Pn c w → BelowF w0 w → Q (.panic c) a w) (hPf : ∀ c d v a w, (∀ t, d = some t → ∀ q ∈ w0.pn, q.1 ≠ t) → Q (.panic c) (a.put d v) w → Q (.panic c) a w)
    (hK : ∀ a w, Good P w0 R Pn Bk X W K a w → Q .normal a w) (hM : M w0 σ ρ β a w.toWorld) (hO : Ow w0 β w) (hW : Lf w0 W w) (hx : X σ ρ β) (ht : exDraw P es (stableOf σ ops) ops σ K = some t) (hs : satB P w0 R Pn Bk t ρ w) :
    (Code.region id ops true).wp P Q a w.toWorld := by
  unfold exDraw at ht
  rw [forceE_eq] at ht
  have hL := Le.drew hO.wf hM.le
  refine wp_region_held hm (exM_sound (W := ⟨w.drew, w.own, w.bld⟩) (stable := stableOf σ ops) (gf := fun b => β.getD b 0) (vf := fun b => denL ρ β ((σ.bx.getD b (0, [])).2)) (tf := fun b => (σ.bx.getD b (0, [])).1) ((closed_sta _ _ _ _).and (hX.weak _)) (fun h => h.1) hsel hQ hPf ?_ _ _ _ _ σ ρ β a ⟨w.drew, w.own, w.bld⟩ t (inv_start ops) hM.drew ⟨hO.own, hL.wf⟩ (Le.refl hL.wf hL.b).toLf (Le.refl hL.wf hL.b).toLf ⟨?_, hx⟩ ht (sat_mono P hs hL))
  · rintro a' w' ⟨ow, σ', t', ρ', β', rfl, e1, e2, e3, e4, e5, e6⟩
    exact hK _ _ ⟨ow, σ', t', ρ', β', rfl, e1, e2.2, (hW.trans hL.toLf).trans e3, e4, e5, e6⟩
  intro b hb
  have hb2 : b < σ.bx.length := by
    have := List.contains_iff_mem.1 hb
    unfold stableOf at this
    exact List.mem_range.1 (List.mem_filter.1 this).1
  obtain ⟨g, vs, e1, e2, e3, _⟩ := hM.m0.bx b _ (List.getElem?_eq_getElem hb2)
  refine ⟨σ.bx[b].2, ?_, ?_, fun l m => ?_⟩
  · simp only [List.getD_eq_getElem?_getD, List.getElem?_eq_getElem hb2, Option.getD_some]
  · simp only [List.getD_eq_getElem?_getD, e1, Option.getD_some]
  · simp only [e2 l m, List.getD_eq_getElem?_getD, List.getElem?_eq_getElem hb2, Option.getD_some]
    have := e2 [] []
    simp only [List.append_nil] at this
    exact this.symm
end
end Sx
end Go.Proofs.Ytpkfjfpknbhekaa
