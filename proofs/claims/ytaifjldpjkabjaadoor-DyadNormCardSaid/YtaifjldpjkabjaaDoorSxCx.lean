/- A symbolic executor for straight-line code, part C: what an operation gives, it gives. A symbolic executor for straight-line code, part D: what is left to show, and one operation's step. A symbolic executor for straight-line code, part E: regions. A symbolic executor for straight-line code, part F: code, functions. -/
import Derived.Test.YtaifjldpjkabjaaDoorSxAx
import Derived.Great.BuildSlice
namespace Go.Proofs.YtaifjldpjkabjaaDoor
open Go.RowKit
namespace Sx
section
variable {P : Program} {B0 : Nat} {σ : St} {ρ : List Value} {β : List Nat} {a : Act} {w : World} {o : Oper} {k : List At} {out : Out}
theorem addr_add (g off d : Nat) : (⟨g, off, none⟩ : Addr).add d = ⟨g, off + d, none⟩ := Addr.add_mid g off d
theorem den_ptr {b off g : Nat} (hg : β[b]? = some g) : At.den ρ β (.ptr b off) = .pointer (some ⟨g, off, none⟩) := by
  simp [At.den, hg]
theorem run_call (f : FuncId) (hf : goodF P f = true) (args : Array Value) (w : World) : (callFunc f args).run P w = .ok (.enter f args) w := by
  unfold goodF at hf
  split at hf
  · rename_i fn hfn
    simp only [Bool.and_eq_true, Bool.not_eq_true'] at hf
    have h1 : fn.name ≠ "runtime.NumGoroutine" := by simpa using hf.1
    obtain ⟨c, hb⟩ := Option.isSome_iff_exists.1 hf.2
    simp [callFunc, hfn, h1, hb]
  · cases hf
theorem call_ok (h : M0 B0 σ ρ β a w) {c : Call} {x : Operand} {f : FuncId} (hop : o.op = .call c) (hcal : c.callee = .value x) (hx : σ.evAt x = some (.fn f)) (ho : callOut P σ f c.args.toList = some (k, out)) : OutOk P σ ρ β a o out := by
  unfold callOut at ho
  split at ho
  · rename_i hf
    split at ho
    · rename_i ts sh hts hsh
      split at ho
      · simp only [Option.some.injEq, Prod.mk.injEq] at ho
        obtain ⟨rfl, rfl⟩ := ho
        intro w'
        have hev := h.evals hts
        have hfn : a.eval x = .func (.func f) #[] #[] := h.evalAt hx
        have hargs : c.args.map a.eval = (ts.map (Tm.den ρ β)).toArray := by
          apply Array.toList_inj.1
          rw [Array.toList_map, hev]
        unfold execOp
        simp only [hop, resolve, hcal, hfn, hargs, Deferred.ofValue, Sem.run_bind, Sem.run_pure, Result.andThen_ok, invoke, Array.append_empty, Array.empty_append]
        exact run_call f hf _ w'
      · cases ho
    · cases ho
  · cases ho
theorem guard_ok {op : BinOp} {ty : TypeId} {x y : Operand} {u v : Value} (h1 : ∀ cs, u ≠ .agg cs) (h2 : u ≠ .nilIface) (w : World) : (eqGuard op ty x y u v).run P w = .ok () w := by
  cases u <;> first | exact absurd rfl h2 | exact absurd rfl (h1 _) | (cases op <;> rfl)
theorem intBin_ok {op : BinOp} {ty : TypeId} {K : IntKind} {m n : Int} {r : Value} (he : intBin op K m n = some r) (w : World) : (binOp op ty (.int K m) (.int K n)).run P w = .ok r w := by
  unfold intBin at he
  cases op
  case quo =>
    simp only at he
    split at he
    · cases he
    · rename_i h0; injection he with he; subst he; simp [binOp, Op.intDiv, h0]
  case rem =>
    simp only at he
    split at he
    · cases he
    · rename_i h0; injection he with he; subst he; simp [binOp, Op.intDiv, h0]
  case and => injection he with he; subst he; simp [binOp, Op.intBits, bits]
  case or => injection he with he; subst he; simp [binOp, Op.intBits, bits]
  case xor => injection he with he; subst he; simp [binOp, Op.intBits, bits]
  all_goals (simp only [Option.some.injEq, reduceCtorEq] at he; try (subst he; simp [binOp, Op.intArith, Op.intCmp]))
theorem shift_ok {ty : TypeId} {op : BinOp} (hop : op = .shl ∨ op = .shr) {u v r : Value} (he : Prim.ev (if op = .shl then .shl else .shr) [u, v] = some r) (w : World) : (binOp op ty u v).run P w = .ok r w ∧ (∀ cs, u ≠ .agg cs) ∧ u ≠ .nilIface := by
  rcases hop with rfl | rfl
  all_goals
    simp only [reduceCtorEq, if_true, if_false] at he
    unfold Prim.ev at he
    split at he <;> try (simp_all; done)
    rename_i e2
    injection e2 with e2 e3
    injection e3 with e3 e4
    subst e2 e3
    split at he
    · cases he
    · rename_i h0
      injection he with he
      subst he
      exact ⟨by simp [binOp, Op.shift, h0], by simp, by simp⟩
theorem equal_bool {ty : TypeId} (hu : P.underlying ty = some .bool) (m n : Bool) (w : World) : (Op.equal ty (.bool m) (.bool n)).run P w = .ok (m == n) w := run_equalIn_bool' w 9999 ty m n hu
theorem boolBin_ok {op : BinOp} {ty : TypeId} (hu : P.underlying ty = some .bool) {m n : Bool} {r : Value} (he : boolBin op m n = some r) (w : World) : (binOp op ty (.bool m) (.bool n)).run P w = .ok r w := by
  unfold boolBin at he
  cases op <;> simp only [Option.some.injEq, reduceCtorEq] at he <;> subst he
  · show ((do pure (.bool (← Op.equal ty (.bool m) (.bool n))) : Sem Value)).run P w = _
    rw [Sem.run_bind, equal_bool hu]
    rfl
  · show ((do pure (.bool (!(← Op.equal ty (.bool m) (.bool n)))) : Sem Value)).run P w = _
    rw [Sem.run_bind, equal_bool hu]
    rfl
theorem bin_ok {p : Prim} {op : BinOp} {ty : TypeId} {x y : Operand} (hs : binP P ty op = some p) {u v r : Value} (he : p.ev [u, v] = some r) (w : World) :
    ((do eqGuard op ty x y u v; binOp op ty u v : Sem Value)).run P w = .ok r w := by
  unfold binP at hs
  split at hs
  · split at hs
    · injection hs with hs
      subst hs
      obtain ⟨h1, h2, h3⟩ := shift_ok (P := P) (ty := ty) (.inl rfl) (by simpa using he) w
      rw [Sem.run_bind, guard_ok h2 h3, Result.andThen_ok]
      exact h1
    · injection hs with hs
      subst hs
      obtain ⟨h1, h2, h3⟩ := shift_ok (P := P) (ty := ty) (.inr rfl) (by simpa using he) w
      rw [Sem.run_bind, guard_ok h2 h3, Result.andThen_ok]
      exact h1
    injection hs with hs
    subst hs
    unfold Prim.ev at he
    split at he <;> try (simp_all; done)
    rename_i e1 e2
    simp only [Prim.bin.injEq] at e1
    subst e1
    injection e2 with e2 e3
    injection e3 with e3 e4
    subst e2 e3
    split at he
    · rename_i ek
      subst ek
      rw [Sem.run_bind, guard_ok (by simp) (by simp), Result.andThen_ok]
      exact intBin_ok he w
    · cases he
  · rename_i hu
    injection hs with hs
    subst hs
    unfold Prim.ev at he
    split at he <;> try (simp_all; done)
    rename_i e1 e2
    simp only [Prim.bbin.injEq] at e1
    subst e1
    injection e2 with e2 e3
    injection e3 with e3 e4
    subst e2 e3
    rw [Sem.run_bind, guard_ok (by simp) (by simp), Result.andThen_ok]
    exact boolBin_ok hu he w
  · cases hs
theorem load_ok {ty : TypeId} {off n : Nat} {row : Bool} {g : Nat} {e : TypeId × List At} (hs : szOf P ty = some n) (hr : rowB P ty = some row) (hB : Box w g (denL ρ β e.2) e.1) (hl : off + n ≤ e.2.length) :
    (row = true → (loadVar ty ⟨g, off, none⟩).run P w = .ok (Tm.den ρ β (.ag ((e.2.drop off).take n))) w) ∧
    (row = false → ∀ y, e.2[off]? = some y → (loadVar ty ⟨g, off, none⟩).run P w = .ok (y.den ρ β) w) := by
  unfold szOf at hs
  unfold rowB at hr
  obtain ⟨d, hd, hr⟩ := Option.map_eq_some_iff.1 hr
  constructor
  · rintro rfl
    have h1 := box_range hB off n
    have h2 := run_loadVar_mid (P := P) w g off ty _ d h1 hd hr (by rw [hs]; simp [denL]; omega)
    rw [h2]
    simp [Tm.den, denL]
  · rintro rfl y hy
    have hagg : (isAgg ty).run P w = .ok false w := by
      unfold isAgg
      rw [Sem.run_bind, run_underlying hd w]
      cases d <;> simp_all
    have hc : w.cell? ⟨g, off, none⟩ = some (y.den ρ β) := by
      rw [hB.get]
      simp [denL, hy]
    simp [loadVar, Sem.run_bind, hagg, hc]
theorem store_ok {ty : TypeId} {off n : Nat} {g : Nat} {vs us : List Value} {t : TypeId} {v : Value} (hs : szOf P ty = some n) (hB : Box w g vs t) (hv : v.cells = us.toArray) (hn : us.length = n) (hl : off + n ≤ vs.length) (h1 : ∀ u ∈ us, u.oneCell' = true) :
    (storeVar ty ⟨g, off, none⟩ v).run P w = .ok () (w.setRow g (vs.take off ++ us ++ vs.drop (off + us.length)).toArray) := by
  have h2 := run_storeCells_at (P := P) g off t us 0 vs.toArray w hB (by simp; omega) h1
  unfold szOf at hs
  cases hi : P.info? ty with
  | none => simp [hi] at hs
  | some i =>
    simp only [hi, Option.map_some, Option.some.injEq] at hs
    simp only [Nat.add_zero] at h2
    simp [storeVar, sizeOf, typeInfo, hi, hv, hs, hn, h2]
/-- **What an operation gives, it gives.** -/
theorem out_sound (h : M0 B0 σ ρ β a w) (ho : outOf P σ o = some (k, out)) (hk : ∀ x ∈ k, LeafOk (x.den ρ β)) : OutOk P σ ρ β a o out := by
  unfold outOf at ho
  cases hop : o.op <;> simp only [hop] at ho <;> try (cases ho; done)
  case move x =>
    obtain ⟨v, hv, e⟩ := Option.map_eq_some_iff.1 ho
    cases e
    intro w'
    unfold execOp
    simp only [hop, h.eval hv]
    rfl
  case assign x =>
    obtain ⟨v, hv, e⟩ := Option.map_eq_some_iff.1 ho
    cases e
    intro w'
    unfold execOp
    simp only [hop, h.eval hv]
    rfl
  case pick c x y =>
    split at ho
    all_goals first | (cases ho; done) | skip
    all_goals
      rename_i hb
      obtain ⟨z, hz, hb⟩ := Option.bind_eq_some_iff.1 hb
      obtain ⟨v, hv, e⟩ := Option.map_eq_some_iff.1 ho
      cases e
      intro w'
      unfold execOp
      simp only [hop, h.evalAt hz, h.boolOf hb, h.eval hv]
      rfl
  case alloc ty =>
    obtain ⟨cs, hz, ho⟩ := Option.bind_eq_some_iff.1 ho
    obtain ⟨k', hk', e⟩ := Option.map_eq_some_iff.1 ho
    cases e
    refine ⟨chk_ok ρ β hk' hk, fun w' => ?_⟩
    obtain ⟨z, hz1, hz2⟩ := run_zero hz ρ β w'
    unfold execOp
    simp only [hop, Instr.alloc, newVar, newRow, Sem.run_bind, hz1, Result.andThen_ok, hz2, run_newObj_alloc, Sem.run_pure]
  case box ty x =>
    obtain ⟨cs, hz, ho⟩ := Option.bind_eq_some_iff.1 ho
    obtain ⟨T, hT, hl⟩ := Option.bind_eq_some_iff.1 hz
    obtain ⟨k', hk', e⟩ := Option.map_eq_some_iff.1 ho
    cases e
    have hok := chk_ok ρ β hk' hk
    refine ⟨hok, fun w' => ?_⟩
    have hc := leaves_cells hl ρ β (fun v hv => (hok v hv).1)
    unfold execOp
    simp only [hop, Instr.box, newVar, newRow, Sem.run_bind, Result.andThen_ok, h.eval hT, hc, run_newObj_alloc, Sem.run_pure]
  case build ty parts =>
    split at ho
    · rename_i pl cs ps hpl hz hps
      obtain ⟨k', hk', ho⟩ := Option.bind_eq_some_iff.1 ho
      obtain ⟨l, hl, e⟩ := Option.map_eq_some_iff.1 ho
      cases e
      intro w'
      have hb : P.built ty (parts.map fun q => (q.1, a.eval q.2)).toList = some (denL ρ β l).toArray := by
        have hev := evP_ok h hps
        have hfill := fill_ok pl (pl.toArray[·]?) (fun j x hj => by simpa using hj) ρ β ps cs l (denL ρ β cs).toArray hl rfl (flat_ok ρ β hk' hk)
        unfold placesOf at hpl
        unfold zeros at hz
        split at hpl
        · rename_i fs hu
          obtain ⟨it, hi, hz⟩ := Option.bind_eq_some_iff.1 hz
          obtain ⟨z, hz1, hz2⟩ := Option.bind_eq_some_iff.1 hz
          unfold Program.built
          simp only [hi, hu, hz1, hpl]
          rw [Array.toList_map, hev]
          have e := leavesOf_den ρ β hz2
          rw [e] at hfill
          exact hfill
        · cases hpl
      unfold execOp
      simp only [hop]
      rw [Sem.run_bind, run_build w' ty _ _ hb]
      rfl
    · cases ho
  case buildSlice ty len parts =>
    split at ho
    · rename_i e hu
      split at ho
      · rename_i sz zs ps hsz hz hps
        split at ho
        · rename_i hc
          obtain ⟨hc1, hc2, hc3⟩ := hc
          obtain ⟨l, hl, e2⟩ := Option.bind_eq_some_iff.1 ho
          cases e2
          intro hk1 w'
          have hev := evP_ok h hps
          unfold zeros at hz
          obtain ⟨it, hi, hz⟩ := Option.bind_eq_some_iff.1 hz
          obtain ⟨z, hz1, hz2⟩ := Option.bind_eq_some_iff.1 hz
          unfold szOf at hsz
          rw [hi] at hsz
          simp only [Option.map_some, Option.some.injEq] at hsz
          subst hsz
          have ez := leavesOf_den ρ β hz2
          have hzl : z.cells.size = zs.length := by
            have := congrArg List.length ez
            simp [denL] at this
            omega
          have hfill := fill_ok _ (fun i => some (i * it.size, it.size)) (fun j x hj => by
            rw [List.getElem?_map] at hj
            obtain ⟨y, hy, rfl⟩ := Option.map_eq_some_iff.1 hj
            obtain ⟨h1, h2⟩ := List.getElem?_eq_some_iff.1 hy
            rw [List.getElem_range] at h2
            subst h2
            rfl) ρ β ps _ l _ hl rfl (plain_ok ρ β hk1)
          have hcells : (denL ρ β ((List.range (len * it.size)).map fun i => zs.getD (i % it.size) .nil)).toArray = (Array.range (len * it.size)).map (z.cells[· % z.cells.size]!) := by
            apply Array.toList_inj.1
            simp only [denL, List.map_map, Array.toList_map, Array.toList_range]
            refine List.map_congr_left fun i _ => ?_
            have hpos : 0 < it.size := Nat.pos_of_ne_zero (fun e => hc2 (by rw [e, Nat.mul_zero]))
            have hlt : i % it.size < zs.length := by rw [hc3]; exact Nat.mod_lt _ hpos
            simp only [Function.comp]
            rw [hzl, hc3]
            have h1 : (denL ρ β zs)[i % it.size]? = some ((zs.getD (i % it.size) .nil).den ρ β) := by
              simp [denL, List.getD_eq_getElem?_getD, List.getElem?_eq_getElem hlt]
            rw [ez] at h1
            have h2 : z.cells[i % it.size]? = some ((zs.getD (i % it.size) .nil).den ρ β) := by simpa using h1
            rw [getElem!_def, h2]
          rw [hcells] at hfill
          have hr := run_buildSlice (P := P) w' ty e len (parts.map fun q => (q.1, a.eval q.2)) _ it z hu hi hz1 (by omega) hc2 (by rw [Array.toList_map, hev]; exact hfill)
          unfold execOp
          simp only [hop]
          rw [Sem.run_bind, hr]
          rfl
        · cases ho
      · cases ho
    · cases ho
  case load ty x =>
    split at ho
    · rename_i b off n row hx hn hr
      split at ho
      · rename_i t cs hb
        split at ho
        · rename_i hle
          split at ho
          · rename_i hrow
            cases ho
            intro e g w' he hg hB
            rw [hb] at he
            injection he with he
            subst he
            have h1 := (load_ok (ρ := ρ) (β := β) hn hr hB hle).1 hrow
            unfold execOp
            simp only [hop, h.evalAt hx, den_ptr hg, Instr.loadAt, Instr.sureAddr, Sem.run_bind, Sem.run_pure, Result.andThen_ok, h1]
          · rename_i hrow
            split at ho
            · rename_i hn1
              obtain ⟨y, hy, e⟩ := Option.map_eq_some_iff.1 ho
              cases e
              intro e g w' he hg hB
              rw [hb] at he
              injection he with he
              subst he
              have h1 := (load_ok (ρ := ρ) (β := β) hn hr hB hle).2 (by simpa using hrow) y hy
              unfold execOp
              simp only [hop, h.evalAt hx, den_ptr hg, Instr.loadAt, Instr.sureAddr, Sem.run_bind, Sem.run_pure, Result.andThen_ok, h1]
              rfl
            · cases ho
        · cases ho
      · cases ho
    · cases ho
  case store ty x y =>
    split at ho
    · rename_i b off ls n hx hy hn
      obtain ⟨T, hT, hl⟩ := Option.bind_eq_some_iff.1 hy
      split at ho
      · rename_i hlen
        obtain ⟨k', hk', e⟩ := Option.map_eq_some_iff.1 ho
        cases e
        have hok := chk_ok ρ β hk' hk
        refine ⟨hok, fun e g w' he hg hB hle => ?_⟩
        have hc := leaves_cells hl ρ β (fun v hv => (hok v hv).1)
        have h1 := store_ok (P := P) (off := off) hn hB hc (by simp [denL, hlen]) (by simp [denL]; omega) (fun v hv => (hok v hv).1)
        unfold execOp
        simp only [hop, h.evalAt hx, h.eval hT, den_ptr hg, Instr.storeAt, Instr.sureAddr, Sem.run_bind, Sem.run_pure, Result.andThen_ok, h1]
        simp [denL]
      · cases ho
    · cases ho
  case fieldAddr s x f =>
    split at ho
    · rename_i b off d n hx hf
      split at ho
      · cases ho
      · rename_i hn
        cases ho
        intro w'
        unfold fieldAt at hf
        split at hf
        · rename_i fs hu
          obtain ⟨fl, hfl, hf⟩ := Option.bind_eq_some_iff.1 hf
          obtain ⟨n', hn', e⟩ := Option.map_eq_some_iff.1 hf
          cases e
          have hsz : (sizeOf fl.type).run P w' = .ok n w' := by
            unfold szOf at hn'
            obtain ⟨i, hi, rfl⟩ := Option.map_eq_some_iff.1 hn'
            simp [sizeOf, typeInfo, hi]
          unfold execOp
          simp only [hop, h.evalAt hx, At.den, Instr.fieldAt, fieldPlace, Instr.sureAddr, Sem.run_bind, run_underlying hu, Result.andThen_ok, hfl, Sem.run_pure, hsz]
          rw [if_neg hn]
          simp only [Sem.run_pure, Result.andThen_ok, addr_add, Tm.den, At.den]
        · cases hf
    · cases ho
  case extract x j =>
    split at ho
    · rename_i l hx
      split at ho
      · rename_i ls hj
        cases ho
        intro w'
        unfold execOp
        simp only [hop, h.eval hx, Tm.den, Instr.extract]
        simp [hj, denC]
      · rename_i y hj
        cases ho
        intro w'
        unfold execOp
        simp only [hop, h.eval hx, Tm.den, Instr.extract]
        simp [hj, denC, denL]
      · cases ho
    · cases ho
  case binOp op ty x y ty2 =>
    split at ho
    · rename_i p u v hp hx hy
      cases ho
      intro r he w'
      have h1 := bin_ok (x := x) (y := y) hp he w'
      unfold execOp
      simp only [hop, h.evalAt hx, h.evalAt hy]
      rw [Sem.run_bind, h1]
      rfl
    · cases ho
  case unOp op ty x =>
    cases op <;> simp only at ho <;> try (cases ho; done)
    all_goals
      obtain ⟨u, hu, e⟩ := Option.map_eq_some_iff.1 ho
      cases e
      intro r he w'
      simp only [denL, List.map_cons, List.map_nil] at he
      unfold execOp
      simp only [hop, h.evalAt hu]
      generalize u.den ρ β = z at *
      unfold Prim.ev at he
      split at he <;> try (simp_all; done)
      rename_i e1 e2
      injection e2 with e2
      injection he with he
      subst e2 he
      rfl
  case convert src dst x =>
    split at ho
    · rename_i ks k u hs hd hu
      cases ho
      intro r he w'
      simp only [denL, List.map_cons, List.map_nil] at he
      unfold execOp
      simp only [hop, h.evalAt hu]
      generalize u.den ρ β = z at *
      unfold Prim.ev at he
      split at he <;> try (simp_all; done)
      rename_i k2 k1 n e1 e2
      injection e2 with e2
      injection he with he
      injection e1 with e1
      subst e2 he e1
      simp [convert, run_underlying hs, run_underlying hd, Conv.intToInt]
    · cases ho
  case call c =>
    split at ho
    · rename_i hcal
      split at ho
      · rename_i x ty hargs hty
        split at ho
        · rename_i el u hu hx
          cases ho
          intro r he w'
          simp only [denL, List.map_cons, List.map_nil] at he
          have ha : c.args = #[x] := by rw [← Array.toList_inj]; exact hargs
          have ht : c.argTypes = #[ty] := by rw [← Array.toList_inj]; exact hty
          unfold execOp
          simp only [hop, resolve, hcal, ha, ht]
          have hev := h.evalAt hx
          generalize u.den ρ β = z at *
          unfold Prim.ev at he
          split at he <;> try (simp_all; done)
          rename_i A n cp e1 e2
          injection e2 with e2
          injection he with he
          subst e2 he
          simp [invoke, builtin, Builtin.len_, hev, run_underlying hu, goInt]
        · cases ho
      · cases ho
    · rename_i hcal
      split at ho
      · rename_i x y hargs
        split at ho
        · rename_i u v hx hy
          cases ho
          intro r he w'
          simp only [denL, List.map_cons, List.map_nil] at he
          have ha : c.args = #[x, y] := by rw [← Array.toList_inj]; exact hargs
          unfold execOp
          simp only [hop, resolve, hcal, ha]
          have hev := h.evalAt hx
          have hev2 := h.evalAt hy
          generalize u.den ρ β = z at *
          generalize v.den ρ β = z2 at *
          unfold Prim.ev at he
          split at he <;> try (simp_all; done)
          rename_i e1 e2
          injection e2 with e2 e3
          injection e3 with e3 e4
          injection he with he
          subst e2 e3 he
          simp [invoke, builtin, Builtin.min_, Builtin.min2, hev, hev2]
        · cases ho
      · cases ho
    · rename_i hcal
      split at ho
      · rename_i x y hargs
        split at ho
        · rename_i u v hx hy
          cases ho
          intro r he w'
          simp only [denL, List.map_cons, List.map_nil] at he
          have ha : c.args = #[x, y] := by rw [← Array.toList_inj]; exact hargs
          unfold execOp
          simp only [hop, resolve, hcal, ha]
          have hev := h.evalAt hx
          have hev2 := h.evalAt hy
          generalize u.den ρ β = z at *
          generalize v.den ρ β = z2 at *
          unfold Prim.ev at he
          split at he <;> try (simp_all; done)
          rename_i e1 e2
          injection e2 with e2 e3
          injection e3 with e3 e4
          injection he with he
          subst e2 e3 he
          simp [invoke, builtin, Builtin.max_, Builtin.max2, hev, hev2]
        · cases ho
      · cases ho
    · rename_i x hcal
      split at ho
      · rename_i f hx
        exact call_ok h hop hcal hx ho
      · cases ho
    · cases ho
end
end Sx
end Go.Proofs.YtaifjldpjkabjaaDoor
namespace Go.Proofs.YtaifjldpjkabjaaDoor
open Go.RowKit
namespace Sx
/-- What of a function is left to show. -/
inductive Tree where
  | ret (v : Tm)
  | chk (l : List At) (t : Tree)
  | prim (p : Prim) (args : List At) (t : Tree)
  | call (f : FuncId) (args : List Tm) (sh : Sh) (t : Tree)
  | row (e : TypeId) (cs : List At) (n : Nat) (k : List At) (t : Tree)
  | ite (c : At) (t e : Tree)
  deriving DecidableEq
/-- A later world: numbers read as before, and what the call found is untouched. -/
structure Le (w0 w w' : World) : Prop where
  rd : ∀ {K : IntKind} {A : Option Addr} {n c : Nat} {xs : List Nat}, K ≠ .i64 → RdN K w A n c xs → RdN K w' A n c xs
  b : Below w0.heap.size w0 w'
theorem Le.trans {w0 w w1 w2 : World} (h : Le w0 w w1) (k : Le w0 w1 w2) : Le w0 w w2 := ⟨fun hK hr => k.rd hK (h.rd hK hr), k.b⟩
theorem Le.of {w0 w w' : World} (h : Below w0.heap.size w0 w) (hb : Below w.heap.size w w') : Le w0 w w' := ⟨fun _ hr => hr.below hb, h.trans (hb.mono h.size)⟩
theorem Le.refl {w0 w : World} (h : Below w0.heap.size w0 w) : Le w0 w w := ⟨fun _ hr => hr, h⟩
theorem Le.drew {w0 w : World} (h : Below w0.heap.size w0 w) : Le w0 w w.drew := ⟨fun _ hr => hr.drew, h.drew⟩
theorem Le.setRow {w0 w : World} (h : Below w0.heap.size w0 w) {g : Nat} {vs : List Value} {ty : TypeId} (hB : Box w g vs ty) (hok : ∀ v ∈ vs, LeafOk v) (hg : w0.heap.size ≤ g) (cs : Array Value) : Le w0 w (w.setRow g cs) := by
  refine ⟨fun {K A n c xs} hK hr => ⟨hr.len, hr.cap, hr.max, fun hn => ?_⟩, h.trans ⟨rfl, rfl, rfl, by simp, fun k hk => setRow_other w g k _ (by omega)⟩⟩
  obtain ⟨b, off, hA, hb, hc⟩ := hr.at_ hn
  have hne : b ≠ g := by
    rintro rfl
    have h1 := hc 0 hn
    rw [hB.get] at h1
    exact hK ((hok _ (List.mem_of_getElem? h1)).2 _ _ rfl)
  exact ⟨b, off, hA, by simpa using hb, fun k hk => by rw [cell_setRow_other w g cs _ hne]; exact hc k hk⟩
section
variable (P : Program) (w0 : World) (R : Value → World → Prop) (Pn : List PanicEntry → World → Prop)
/-- A tree holds. -/
def sat : Tree → List Value → World → Prop
  | .ret v, ρ, w => ∀ w', Le w0 w w' → R (v.den ρ []) w'
  | .chk l t, ρ, w => (∀ x ∈ l, LeafOk (x.den ρ [])) ∧ sat t ρ w
  | .prim p args t, ρ, w => ∃ v, p.ev (denL ρ [] args) = some v ∧ sat t (ρ ++ [v]) w
  | .call f args sh t, ρ, w => ∀ w', Le w0 w w' → Calls P f (args.map (Tm.den ρ [])).toArray w' fun e w'' => match e with
      | .returned x => Below w'.heap.size w' w'' ∧ ∃ l, l.length = sh.len ∧ x = sh.val l ∧ sat t (ρ ++ l) w''
      | .panicked c => Below w'.heap.size w' w'' ∧ Pn c w''
      | .outgrown => False
  | .row e cs n k t, ρ, w => (∀ x ∈ k, (x.den ρ []).oneCell' = true) ∧ ∀ w', Le w0 w w' → sat t (ρ ++ [.slice (some ⟨w'.heap.size, 0, none⟩) n n]) (w'.alloc (.cells (denL ρ [] cs).toArray e))
  | .ite c t e, ρ, w => ∃ b, c.den ρ [] = .bool b ∧ (b = true → sat t ρ w) ∧ (b = false → sat e ρ w)
theorem sat_mono {w0 : World} {R : Value → World → Prop} {Pn : List PanicEntry → World → Prop} : ∀ {t : Tree} {ρ : List Value} {w w' : World}, sat P w0 R Pn t ρ w → Le w0 w w' → sat P w0 R Pn t ρ w'
  | .ret _, _, _, _, h, hl => fun w'' hl' => h w'' (hl.trans hl')
  | .chk _ _, _, _, _, ⟨h1, h2⟩, hl => ⟨h1, sat_mono h2 hl⟩
  | .prim _ _ _, _, _, _, ⟨v, h1, h2⟩, hl => ⟨v, h1, sat_mono h2 hl⟩
  | .call _ _ _ _, _, _, _, h, hl => fun w'' hl' => h w'' (hl.trans hl')
  | .row _ _ _ _ _, _, _, _, ⟨h1, h2⟩, hl => ⟨h1, fun w'' hl' => h2 w'' (hl.trans hl')⟩
  | .ite _ _ _, _, _, _, ⟨b, h1, h2, h3⟩, hl => ⟨b, h1, fun e => sat_mono (h2 e) hl, fun e => sat_mono (h3 e) hl⟩
end
def chkT (k : List At) (t : Tree) : Tree := match k with | [] => t | k => .chk k t
section
variable (P : Program) (stable : List Nat)
/-- What follows one operation. -/
def outK (σ : St) (d : Option Nat) (K : St → Option Tree) : Out → Option Tree
  | .val v => forceTm v fun v => force (σ.put d v) K
  | .load b v => match σ.bx[b]? with
    | some _ => forceTm v fun v => force (σ.put d v) K
    | none => none
  | .new ty cs => force ((σ.new ty cs).put d (.one (.ptr σ.bx.length 0))) K
  | .store b off ls => match σ.bx[b]? with
    | some (ty, cs) => if off + ls.length ≤ cs.length ∧ stable.contains b = false then force ((σ.setb b (ty, cs.take off ++ ls ++ cs.drop (off + ls.length))).del d) K else none
    | none => none
  | .prim p args => if args.all At.noP then (force ((σ.more 1).put d (.one (.lf σ.n))) K).map (.prim p args) else none
  | .row e cs n k => if cs.all At.noP ∧ k.all At.noP then (force ((σ.more 1).put d (.one (.lf σ.n))) K).map (.row e cs n k) else none
  | .call f args sh => if args.all Tm.noP then (forceTm (sh.tm σ.n) fun v => force ((σ.more sh.len).put d v) K).map (.call f args sh) else none
def stepK (σ : St) (o : Oper) (K : St → Option Tree) : Option Tree :=
  match outOf P σ o with
  | some (k, out) => if σ.fits o.dst = true ∧ k.all At.noP = true then (outK stable σ o.dst K out).map (chkT k) else none
  | none => none
/-- A choice by a test that is not known parts the ways. -/
def pickJ (σ : St) (o : Oper) : Option Nat :=
  match o.op with
  | .pick c _ _ => match σ.evAt c with
    | some (.lf j) => match lookN j σ.kb with
      | some _ => none
      | none => some j
    | _ => none
  | _ => none
def pstep (σ : St) (o : Oper) (K : St → Option Tree) : Option Tree :=
  match pickJ σ o with
  | none => stepK P stable σ o K
  | some j => match force (σ.know (.lf j) true) (fun σ => stepK P stable σ o K), force (σ.know (.lf j) false) (fun σ => stepK P stable σ o K) with
    | some t, some e => some (.ite (.lf j) t e)
    | _, _ => none
/-- An operation that is not wanted. -/
def skipK (σ : St) (d : Option Nat) (K : St → Option Tree) : Option Tree := if σ.fits d then force (σ.del d) K else none
/-- The guard is known, or parts the ways. -/
def gstep (ops : Array Oper) (σ : St) (o : Oper) (K : St → Option Tree) : Option Tree :=
  match o.guard with
  | none => pstep P stable σ o K
  | some (j, want) => match ((ops[j]?).bind (·.dst)).bind σ.get with
    | some (.one x) => match σ.boolOf x with
      | some b => if b = want then pstep P stable σ o K else skipK σ o.dst K
      | none => if x.noP then match force (σ.know x want) (fun σ => pstep P stable σ o K), force (σ.know x (!want)) (fun σ => skipK σ o.dst K) with
          | some t, some e => some (if want then .ite x t e else .ite x e t)
          | _, _ => none
        else none
    | some (.tup []) => skipK σ o.dst K
    | _ => none
end
/-- A relation of a state that the steps keep. -/
structure Closed (stable : List Nat) (X : St → List Value → List Nat → Prop) : Prop where
  put : ∀ {σ ρ β}, X σ ρ β → ∀ d v, X (σ.put d v) ρ β
  know : ∀ {σ ρ β}, X σ ρ β → ∀ x b, X (σ.know x b) ρ β
  more : ∀ {σ ρ β}, X σ ρ β → ∀ l : List Value, X (σ.more l.length) (ρ ++ l) β
  new : ∀ {σ ρ β}, X σ ρ β → ∀ ty cs g, X (σ.new ty cs) ρ (β ++ [g])
  setb : ∀ {σ ρ β}, X σ ρ β → ∀ b e, stable.contains b = false → X (σ.setb b e) ρ β
theorem closed_true : Closed [] (fun _ _ _ => True) := ⟨fun _ _ _ => trivial, fun _ _ _ => trivial, fun _ _ => trivial, fun _ _ _ _ => trivial, fun _ _ _ _ => trivial⟩
section
variable {P : Program} {w0 : World} {R : Value → World → Prop} {Pn : List PanicEntry → World → Prop} {stable : List Nat} {X : St → List Value → List Nat → Prop}
/-- What follows is shown. -/
def Good (P : Program) (w0 : World) (R : Value → World → Prop) (Pn : List PanicEntry → World → Prop) (X : St → List Value → List Nat → Prop) (K : St → Option Tree) (a : Act) (w : World) : Prop :=
  ∃ σ t ρ β, K σ = some t ∧ X σ ρ β ∧ M w0 σ ρ β a w ∧ sat P w0 R Pn t ρ w
theorem denL_ext {ρ : List Value} {β : List Nat} {l : List At} (h : l.all At.noP = true) : denL ρ [] l = denL ρ β l := denL_noP h ρ [] β
theorem args_ext {ρ : List Value} {β : List Nat} {l : List Tm} (h : l.all Tm.noP = true) : l.map (Tm.den ρ []) = l.map (Tm.den ρ β) :=
  List.map_congr_left fun x hx => Tm.den_noP (List.all_eq_true.1 h x hx) ρ [] β
theorem lf_ext {ρ : List Value} {j : Nat} (h : ρ.getD j undef ≠ undef) (l : List Value) : (ρ ++ l).getD j undef = ρ.getD j undef := by
  rcases Nat.lt_or_ge j ρ.length with hlt | hge
  · rw [List.getD_eq_getElem?_getD, List.getD_eq_getElem?_getD, List.getElem?_append_left hlt]
  · exact absurd (by rw [List.getD_eq_getElem?_getD, List.getElem?_eq_none hge]; rfl) h
theorem leaf_ext {ρ : List Value} {x : At} (hp : x.noP = true) (h : LeafOk (x.den ρ [])) (l : List Value) {β' : List Nat} : x.den (ρ ++ l) β' = x.den ρ [] := by
  cases x with
  | lf j =>
    refine lf_ext (fun e => ?_) l
    have h1 := h.1
    simp only [At.den] at h1
    rw [e] at h1
    exact absurd h1 (by simp [undef, Value.oneCell'])
  | ptr b o => simp [At.noP] at hp
  | num k n => rfl
  | bit x => rfl
  | nil => rfl
  | fn f => rfl
theorem ok_inj {u v : Value} {w w' : World} (h : (Result.ok (Next.value u) w : Result Next) = .ok (.value v) w') : u = v := by
  injection h with h1
  injection h1
theorem stepK_sound {σ : St} {ρ : List Value} {β : List Nat} {a : Act} {w : World} {o : Oper} {K : St → Option Tree} {t : Tree} {Q : Exit → Act → World → Prop} (hX : Closed stable X)
    (hM : M w0 σ ρ β a w) (hx : X σ ρ β) (ht : stepK P stable σ o K = some t) (hs : sat P w0 R Pn t ρ w) (hQ : ∀ c a w, a.defers = [] → Pn c w → Below w0.heap.size w0 w → Q (.panic c) a w) :
    o.wp P a w (Good P w0 R Pn X K) Q := by
  unfold stepK at ht
  split at ht
  · rename_i k out hout
    split at ht
    · rename_i hc
      obtain ⟨hf, hk⟩ := hc
      obtain ⟨t1, ht1, rfl⟩ := Option.map_eq_some_iff.1 ht
      have hks : (∀ x ∈ k, LeafOk (x.den ρ [])) ∧ sat P w0 R Pn t1 ρ w := by
        cases k with
        | nil => exact ⟨fun x hx => (by cases hx), hs⟩
        | cons y r => exact hs
      obtain ⟨hk1, hs1⟩ := hks
      have hkm : ∀ l m, ∀ x ∈ k, LeafOk (x.den (ρ ++ l) (β ++ m)) := fun l m x hx => by
        rw [leaf_ext (List.all_eq_true.1 hk x hx) (hk1 x hx) l]
        exact hk1 x hx
      have hok := fun l m => out_sound (hM.m0.ext l m) hout (hkm l m)
      have hok0 : OutOk P σ ρ β a o out := by
        have := hok [] []
        simpa using this
      unfold Oper.wp
      cases out with
      | val v =>
        simp only [outK, force_eq, forceTm_eq] at ht1
        have h0 : ∀ w, _ := hok0
        rw [h0 w]
        refine ⟨_, _, _, _, ht1, hX.put hx _ _, hM.put hf (fun l m => ?_), hs1⟩
        have h1 : ∀ w, _ := hok l m
        exact ok_inj ((h0 w).symm.trans (h1 w))
      | load b v =>
        simp only [outK, force_eq, forceTm_eq] at ht1
        have h0 : ∀ e g w, _ := hok0
        split at ht1
        case h_2 => cases ht1
        rename_i e he
        obtain ⟨g, vs, e1, e2, e3, e4, e5⟩ := hM.m0.bx b e he
        have ed : denL ρ β e.2 = vs := by have := e2 [] []; simpa using this
        rw [h0 e g w he e1 (ed ▸ e3)]
        refine ⟨_, _, _, _, ht1, hX.put hx _ _, hM.put hf (fun l m => ?_), hs1⟩
        have h1 : ∀ e g w, _ := hok l m
        refine ok_inj ((h0 e g w he e1 (ed ▸ e3)).symm.trans (h1 e g w he ?_ ?_))
        · rw [List.getElem?_append_left (List.getElem?_eq_some_iff.1 e1).1]; exact e1
        · rw [e2]; exact e3
      | new ty cs =>
        simp only [outK, force_eq] at ht1
        obtain ⟨hv, h0⟩ := hok0
        rw [h0 w]
        have hsame : ∀ l m, denL (ρ ++ l) (β ++ m) cs = denL ρ β cs := fun l m => by
          have h1 := (hok l m).2 w
          have h2 := (h0 w).symm.trans h1
          injection h2 with h2 h3
          have h4 := congrArg (fun W : World => W.heap[w.heap.size]?) h3
          simp only [heap_alloc_new] at h4
          injection h4 with h4
          injection h4 with h4
          have h5 := congrArg Array.toList h4
          exact h5.symm
        have hN := hM.new (ty := ty) hsame hv
        refine ⟨_, _, _, _, ht1, hX.put (hX.new hx ty cs w.heap.size) _ _, hN.put ?_ (fun l m => ?_), sat_mono P hs1 (Le.of hM.le (by go_grown))⟩
        · cases hd : o.dst <;> simp_all [St.fits, St.new]
        · simp only [Tm.den, At.den, List.append_assoc]
          rw [← hM.nb, List.getD_eq_getElem?_getD, List.getElem?_append_right (Nat.le_refl _)]
          simp
      | store b off ls =>
        simp only [outK, force_eq] at ht1
        split at ht1
        · rename_i ty cs hb
          split at ht1
          · rename_i hc2
            obtain ⟨hle, hst⟩ := hc2
            obtain ⟨hv, h0⟩ := hok0
            obtain ⟨g, vs, e1, e2, e3, e4, e5⟩ := hM.m0.bx b _ hb
            have ed : denL ρ β cs = vs := by have := e2 [] []; simpa using this
            rw [h0 _ g w hb e1 (by simp only; rw [ed]; exact e3) hle]
            have hsame : ∀ l m, denL (ρ ++ l) (β ++ m) ls = denL ρ β ls := fun l m => by
              have h1 := (hok l m).2 _ g w hb (by rw [List.getElem?_append_left (List.getElem?_eq_some_iff.1 e1).1]; exact e1) (by simp only; rw [e2]; exact e3) hle
              have h2 := (h0 _ g w hb e1 (by simp only; rw [ed]; exact e3) hle).symm.trans h1
              injection h2 with h2 h3
              have h4 := congrArg (fun W : World => W.heap[g]?) h3
              simp only at h4
              rw [setRow_heap w g vs.toArray _ ty (0, 0) e3, setRow_heap w g vs.toArray _ ty (0, 0) e3, e2, ed] at h4
              injection h4 with h4
              injection h4 with h4
              have h5 := congrArg Array.toList h4
              simp only [List.append_assoc] at h5
              have h6 := List.append_cancel_left h5
              have hl1 : (denL (ρ ++ l) (β ++ m) ls).length = (denL ρ β ls).length := by simp [denL]
              exact (List.append_inj h6 hl1.symm).1.symm
            have hS := hM.store (off := off) hb e1 e2 hsame hv
            have hlen : (denL ρ β ls).length = ls.length := by simp [denL]
            rw [hlen] at hS
            simp only [ed]
            refine ⟨_, _, _, _, ht1, hX.put (hX.setb hx b _ hst) _ _, hS.del (by cases hd : o.dst <;> simp_all [St.fits, St.setb]), sat_mono P hs1 (Le.setRow hM.le e3 e5 e4 _)⟩
          · cases ht1
        · cases ht1
      | prim p args =>
        simp only [outK, force_eq] at ht1
        split at ht1
        · rename_i hn
          obtain ⟨t2, ht2, rfl⟩ := Option.map_eq_some_iff.1 ht1
          obtain ⟨v, hv, hs2⟩ := hs1
          rw [denL_ext (β := β) hn] at hv
          have h0 : ∀ v, _ → ∀ w, _ := hok0
          rw [h0 v hv w]
          have hm := hM.more [v]
          refine ⟨_, _, _, _, ht2, hX.put (hX.more hx [v]) _ _, hm.put ?_ (fun l m => ?_), hs2⟩
          · cases hd : o.dst <;> simp_all [St.fits, St.more]
          · simp only [Tm.den, At.den, List.append_assoc]
            rw [← hM.nn, List.getD_eq_getElem?_getD, List.getElem?_append_right (Nat.le_refl _)]
            simp
        · cases ht1
      | row e cs n k1 =>
        simp only [outK, force_eq] at ht1
        split at ht1
        · rename_i hn
          obtain ⟨hn1, hn2⟩ := hn
          obtain ⟨t2, ht2, rfl⟩ := Option.map_eq_some_iff.1 ht1
          obtain ⟨hk2, hs2⟩ := hs1
          have h0 : _ → ∀ w, _ := hok0
          rw [h0 (fun x hx => by rw [← At.den_noP (List.all_eq_true.1 hn2 x hx) ρ [] β]; exact hk2 x hx) w]
          have hs3 := hs2 w (Le.refl hM.le)
          rw [denL_ext (β := β) hn1] at hs3
          have hm := (hM.keep (show Below w.heap.size w (w.alloc (.cells (denL ρ β cs).toArray e)) by go_grown)).more [.slice (some ⟨w.heap.size, 0, none⟩) n n]
          refine ⟨_, _, _, _, ht2, hX.put (hX.more hx [_]) _ _, hm.put ?_ (fun l m => ?_), hs3⟩
          · cases hd : o.dst <;> simp_all [St.fits, St.more]
          · simp only [Tm.den, At.den, List.append_assoc]
            rw [← hM.nn, List.getD_eq_getElem?_getD, List.getElem?_append_right (Nat.le_refl _)]
            simp
        · cases ht1
      | call f args sh =>
        simp only [outK, force_eq, forceTm_eq] at ht1
        split at ht1
        · rename_i hn
          obtain ⟨t2, ht2, rfl⟩ := Option.map_eq_some_iff.1 ht1
          have h0 : ∀ w, _ := hok0
          rw [h0 w, ← args_ext (β := β) hn]
          refine (hs1 w (Le.refl hM.le)).mono fun e w'' he => ?_
          cases e with
          | returned x =>
            obtain ⟨hb, l, hl, rfl, hs2⟩ := he
            have hm := (hM.keep hb).more l
            rw [hl] at hm
            have hx2 := hX.more hx l
            rw [hl] at hx2
            refine ⟨_, _, _, _, ht2, hX.put hx2 _ _, hm.put ?_ (fun l' m => ?_), hs2⟩
            · cases hd : o.dst <;> simp_all [St.fits, St.more]
            · rw [← hM.nn]; exact (sh_den ρ l l' (β ++ m) sh hl).symm
          | panicked c => exact hQ c _ _ hM.m0.df he.2 (hM.le.trans (he.1.mono hM.le.size))
          | outgrown => exact he.elim
        · cases ht1
    · cases ht
  · cases ht
theorem skip_sound {σ : St} {ρ : List Value} {β : List Nat} {a : Act} {w : World} {d : Option Nat} {K : St → Option Tree} {t : Tree} (hX : Closed stable X) (hM : M w0 σ ρ β a w) (hx : X σ ρ β) (ht : skipK σ d K = some t) (hs : sat P w0 R Pn t ρ w) :
    Good P w0 R Pn X K (a.put d undef) w := by
  unfold skipK at ht
  simp only [force_eq] at ht
  split at ht
  · rename_i hf
    exact ⟨_, _, _, _, ht, hX.put hx _ _, hM.del hf, hs⟩
  · cases ht
/-- The test of such a choice. -/
theorem pickJ_ext {ρ : List Value} {β : List Nat} {j : Nat} {b : Bool} (hb : (At.lf j).den ρ [] = .bool b) : ∀ l m, (At.lf j).den (ρ ++ l) (β ++ m) = .bool b := by
  intro l m
  simp only [At.den] at hb ⊢
  rw [lf_ext (by rw [hb]; simp [undef]) l]
  exact hb
theorem pstep_sound {σ : St} {ρ : List Value} {β : List Nat} {a : Act} {w : World} {o : Oper} {K : St → Option Tree} {t : Tree} {Q : Exit → Act → World → Prop} (hX : Closed stable X)
    (hM : M w0 σ ρ β a w) (hx : X σ ρ β) (ht : pstep P stable σ o K = some t) (hs : sat P w0 R Pn t ρ w) (hQ : ∀ c a w, a.defers = [] → Pn c w → Below w0.heap.size w0 w → Q (.panic c) a w) :
    o.wp P a w (Good P w0 R Pn X K) Q := by
  unfold pstep at ht
  simp only [force_eq] at ht
  split at ht
  · exact stepK_sound hX hM hx ht hs hQ
  · rename_i j hj
    split at ht
    · rename_i t1 e1 h1 h2
      injection ht with ht
      subst ht
      obtain ⟨b, hb, k1, k2⟩ := hs
      have hext := pickJ_ext (β := β) hb
      cases b with
      | true => exact stepK_sound hX (hM.know hext) (hX.know hx _ _) h1 (k1 rfl) hQ
      | false => exact stepK_sound hX (hM.know hext) (hX.know hx _ _) h2 (k2 rfl) hQ
    · cases ht
end
end Sx
end Go.Proofs.YtaifjldpjkabjaaDoor
namespace Go.Proofs.YtaifjldpjkabjaaDoor
open Go.RowKit
namespace Sx
section
variable (P : Program) (stable : List Nat) (ops : Array Oper)
def exL : List Oper → St → (St → Option Tree) → Option Tree
  | [], σ, K => K σ
  | o :: r, σ, K => gstep P stable ops σ o (fun σ' => exL r σ' K)
/-- It yields its value in every world in which the stable variables are as they were. -/
def quietOut (σ : St) (o : Oper) : Bool :=
  match outOf P σ o with
  | some (_, .val _) => true
  | some (_, .prim _ _) => true
  | some (_, .load b _) => stable.contains b
  | _ => false
def quietP (σ : St) (o : Oper) : Bool :=
  match pickJ σ o with
  | none => quietOut P stable σ o
  | some j => quietOut P stable (σ.know (.lf j) true) o && quietOut P stable (σ.know (.lf j) false) o
def takeB (σ : St) (o : Oper) : Bool :=
  match o.guard with
  | none => quietP P stable σ o
  | some (j, want) => match ((ops[j]?).bind (·.dst)).bind σ.get with
    | some (.one x) => match σ.boolOf x with
      | some b => if b = want then quietP P stable σ o else true
      | none => quietP P stable (σ.know x want) o
    | some (.tup []) => true
    | _ => false
def allEq : List (Option Tree) → Option Tree
  | [] => none
  | [x] => x
  | x :: r => if ∀ y ∈ r, y = x then x else none
end
/-- An operation that has not come up yet: its number, what it waits for, whom it must let go first if it is to be taken first. -/
structure Ent where
  j : Nat
  o : Oper
  am : List Nat
  cf : List Nat
def waitsOn (o : Oper) (i : Nat) : Bool := o.after.any fun e => Region.binds .any e && e.on == i
def confl (ops : Array Oper) (i : Nat) (oi : Oper) : List Nat := (ops.toList.zipIdx.filter fun q => !(q.2 == i || waitsOn q.1 i || oi.apart ops q.1)).map (·.2)
def preds (o : Oper) : List Nat := (o.after.toList.filter (Region.binds .any)).map (·.on)
def entsOf (ops : Array Oper) : List Ent := ops.toList.zipIdx.map fun q => ⟨q.2, q.1, preds q.1, confl ops q.2 q.1⟩
def forceE {β : Type} : List Ent → (List Ent → β) → β
  | [], k => k []
  | ⟨j, o, am, cf⟩ :: r, k => forceN j fun j => forceL am fun am => forceL cf fun cf => forceE r fun r' => k (⟨j, o, am, cf⟩ :: r')
theorem forceE_eq {β : Type} : ∀ (l : List Ent) (k : List Ent → β), forceE l k = k l
  | [], _ => rfl
  | ⟨_, _, _, _⟩ :: r, k => by simp only [forceE, forceN_eq, forceL_eq]; rw [forceE_eq r]
def readyE (e : Ent) (L : Nat) : Bool := e.am.all fun x => L.testBit x
def freeE (e : Ent) (L : Nat) : Bool := e.cf.all fun x => L.testBit x
def pickT (f : Ent → Bool) : List Ent → Option (Ent × List Ent)
  | [] => none
  | e :: r => if f e then some (e, r) else match pickT f r with
    | some (x, r') => some (x, e :: r')
    | none => none
def picks (f : Ent → Bool) : List Ent → List (Ent × List Ent)
  | [] => []
  | e :: r => if f e then (e, r) :: (picks f r).map (fun q => (q.1, e :: q.2)) else (picks f r).map (fun q => (q.1, e :: q.2))
section
variable (P : Program) (stable : List Nat) (ops : Array Oper)
def exM : Nat → List Ent → Nat → St → (St → Option Tree) → Option Tree
  | 0, cand, _, σ, K => match cand with
    | [] => K σ
    | _ => none
  | n + 1, cand, L, σ, K => match cand with
    | [] => K σ
    | c :: cs => match pickT (fun e => readyE e L && freeE e L && takeB P stable ops σ e.o) (c :: cs) with
      | some (e, r) => gstep P stable ops σ e.o (fun σ' => forceN (L ||| 2 ^ e.j) fun L' => exM n r L' σ' K)
      | none => allEq ((picks (fun e => readyE e L) (c :: cs)).map fun q => gstep P stable ops σ q.1.o (fun σ' => forceN (L ||| 2 ^ q.1.j) fun L' => exM n q.2 L' σ' K))
def exDraw (σ : St) (K : St → Option Tree) : Option Tree := forceE (entsOf ops) fun l => exM P stable ops ops.size l 0 σ K
end
def stableOf (σ : St) (ops : Array Oper) : List Nat :=
  (List.range σ.bx.length).filter fun b => !ops.any fun o => match o.op with
    | .store _ x _ => match σ.evAt x with
      | some (.ptr b' _) => b' == b
      | _ => false
    | _ => false
theorem allEq_spec {l : List (Option Tree)} {t : Tree} (h : allEq l = some t) : l ≠ [] ∧ ∀ y ∈ l, y = some t := by
  match l, h with
  | [x], h =>
    simp only [allEq] at h
    exact ⟨by simp, fun y hy => by rw [List.mem_singleton.1 hy]; exact h⟩
  | x :: z :: r, h =>
    simp only [allEq] at h
    split at h
    · rename_i hr
      refine ⟨by simp, fun y hy => ?_⟩
      rcases List.mem_cons.1 hy with rfl | hy
      · exact h
      · rw [hr y hy]; exact h
    · cases h
theorem pickT_perm {f : Ent → Bool} : ∀ {l : List Ent} {e : Ent} {r : List Ent}, pickT f l = some (e, r) → l.Perm (e :: r) ∧ f e = true
  | [], _, _, h => by cases h
  | x :: l, e, r, h => by
    simp only [pickT] at h
    split at h
    · rename_i hx
      injection h with h
      injection h with h1 h2
      subst h1 h2
      exact ⟨List.Perm.refl _, hx⟩
    · split at h
      · rename_i y r' hy
        injection h with h
        injection h with h1 h2
        subst h1 h2
        obtain ⟨h3, h4⟩ := pickT_perm hy
        exact ⟨(h3.cons x).trans (List.Perm.swap ..), h4⟩
      · cases h
theorem picks_perm {f : Ent → Bool} : ∀ {l : List Ent} {q : Ent × List Ent}, q ∈ picks f l → l.Perm (q.1 :: q.2) ∧ f q.1 = true
  | [], _, h => by cases h
  | x :: l, q, h => by
    have hm : ∀ q ∈ (picks f l).map (fun q => (q.1, x :: q.2)), (x :: l).Perm (q.1 :: q.2) ∧ f q.1 = true := by
      intro q hq
      obtain ⟨p, hp, rfl⟩ := List.mem_map.1 hq
      obtain ⟨h3, h4⟩ := picks_perm hp
      exact ⟨(h3.cons x).trans (List.Perm.swap ..), h4⟩
    simp only [picks] at h
    split at h
    · rename_i hx
      rcases List.mem_cons.1 h with rfl | h
      · exact ⟨List.Perm.refl _, hx⟩
      · exact hm q h
    · exact hm q h
theorem picks_all {f : Ent → Bool} {e : Ent} (hf : f e = true) : ∀ {l : List Ent}, e ∈ l → ∃ r, (e, r) ∈ picks f l
  | [], h => by cases h
  | x :: l, h => by
    by_cases hx : f x = true
    · simp only [picks, if_pos hx]
      rcases List.mem_cons.1 h with rfl | h
      · exact ⟨l, List.mem_cons_self ..⟩
      · obtain ⟨r, hr⟩ := picks_all hf h
        exact ⟨x :: r, List.mem_cons_of_mem _ (List.mem_map.2 ⟨_, hr, rfl⟩)⟩
    · simp only [picks, if_neg hx]
      rcases List.mem_cons.1 h with rfl | h
      · exact absurd hf hx
      · obtain ⟨r, hr⟩ := picks_all hf h
        exact ⟨x :: r, List.mem_map.2 ⟨_, hr, rfl⟩⟩
/-- The candidates are what has not come up. -/
structure Inv (ops : Array Oper) (cand : List Ent) (L : Nat) (listed : Array Bool) : Prop where
  sz : listed.size = ops.size
  bit : ∀ i, i < ops.size → listed.getD i true = L.testBit i
  far : ∀ i, ops.size ≤ i → L.testBit i = false
  ent : ∀ e ∈ cand, ops[e.j]? = some e.o ∧ e.am = preds e.o ∧ e.cf = confl ops e.j e.o ∧ listed.getD e.j true = false
  all : ∀ i, i < ops.size → listed.getD i true = false → ∃ e ∈ cand, e.j = i
  dis : cand.Pairwise fun x y => x.j ≠ y.j
theorem Inv.perm {ops : Array Oper} {cand cand' : List Ent} {L : Nat} {listed : Array Bool} (h : Inv ops cand L listed) (hp : cand.Perm cand') : Inv ops cand' L listed where
  sz := h.sz
  bit := h.bit
  far := h.far
  ent e he := h.ent e (hp.mem_iff.2 he)
  all i hi hu := by obtain ⟨e, he, hj⟩ := h.all i hi hu; exact ⟨e, hp.mem_iff.1 he, hj⟩
  dis := (hp.pairwise_iff (fun {x y} h => Ne.symm h)).1 h.dis
theorem lt_of_get {ops : Array Oper} {i : Nat} {o : Oper} (h : ops[i]? = some o) : i < ops.size := by
  rcases Nat.lt_or_ge i ops.size with h2 | h2
  · exact h2
  · rw [Array.getElem?_eq_none h2] at h; cases h
theorem Inv.next {ops : Array Oper} {e : Ent} {cand : List Ent} {L : Nat} {listed : Array Bool} (h : Inv ops (e :: cand) L listed) : Inv ops cand (L ||| 2 ^ e.j) (listed.setIfInBounds e.j true) := by
  have he := h.ent e (List.mem_cons_self ..)
  have hlt := lt_of_get he.1
  have hd := List.pairwise_cons.1 h.dis
  have hset : ∀ i, i ≠ e.j → (listed.setIfInBounds e.j true).getD i true = listed.getD i true := fun i hi => getD_set_ne true (fun h => hi h.symm)
  have hself : (listed.setIfInBounds e.j true).getD e.j true = true := by
    rw [Array.getD_eq_getD_getElem?, Array.getElem?_setIfInBounds_self_of_lt (by rw [h.sz]; exact hlt)]; rfl
  refine ⟨by simp [h.sz], fun i hi => ?_, fun i hi => ?_, fun x hx => ?_, fun i hi hu => ?_, hd.2⟩
  · by_cases hie : i = e.j
    · subst hie; rw [hself]; simp [Nat.testBit_or, Nat.testBit_two_pow_self]
    · rw [hset i hie, h.bit i hi, Nat.testBit_or, Nat.testBit_two_pow_of_ne (fun h => hie h.symm), Bool.or_false]
  · rw [Nat.testBit_or, h.far i hi, Nat.testBit_two_pow_of_ne (by omega)]; rfl
  · obtain ⟨h1, h2, h3, h4⟩ := h.ent x (List.mem_cons_of_mem _ hx)
    exact ⟨h1, h2, h3, by rw [hset x.j (fun h => hd.1 x hx h.symm)]; exact h4⟩
  · by_cases hie : i = e.j
    · subst hie; rw [hself] at hu; cases hu
    · rw [hset i hie] at hu
      obtain ⟨x, hx, hj⟩ := h.all i hi hu
      rcases List.mem_cons.1 hx with rfl | hx
      · exact absurd hj.symm hie
      · exact ⟨x, hx, hj⟩
theorem testBit_listed {ops : Array Oper} {cand : List Ent} {L : Nat} {listed : Array Bool} (h : Inv ops cand L listed) (i : Nat) : L.testBit i = listed.getD i false := by
  rcases Nat.lt_or_ge i ops.size with hi | hi
  · rw [← h.bit i hi, Array.getD_eq_getD_getElem?, Array.getD_eq_getD_getElem?, Array.getElem?_eq_getElem (by rw [h.sz]; exact hi)]
    rfl
  · rw [h.far i hi, Array.getD_eq_getD_getElem?, Array.getElem?_eq_none (by rw [h.sz]; exact hi)]
    rfl
theorem ready_iff {ops : Array Oper} {cand : List Ent} {L : Nat} {listed : Array Bool} (h : Inv ops cand L listed) {e : Ent} (he : e ∈ cand) : e.j ∈ Region.ready .any ops listed ↔ readyE e L = true := by
  obtain ⟨h1, h2, h3, h4⟩ := h.ent e he
  rw [mem_ready]
  unfold readyE
  rw [h2, List.all_eq_true]
  constructor
  · rintro ⟨_, o, ho, hall⟩ x hx
    rw [h1] at ho
    injection ho with ho
    subst ho
    unfold preds at hx
    obtain ⟨ed, hed, rfl⟩ := List.mem_map.1 hx
    obtain ⟨hm, hb⟩ := List.mem_filter.1 hed
    rw [testBit_listed h]
    exact hall ed (Array.mem_toList_iff.1 hm) hb
  · intro hall
    refine ⟨h4, e.o, h1, fun ed hed hb => ?_⟩
    have := hall ed.on (List.mem_map.2 ⟨ed, List.mem_filter.2 ⟨Array.mem_toList_iff.2 hed, hb⟩, rfl⟩)
    rw [testBit_listed h] at this
    exact this
theorem free_of {ops : Array Oper} {cand : List Ent} {L : Nat} {listed : Array Bool} (h : Inv ops cand L listed) {e : Ent} (he : e ∈ cand) (hf : freeE e L = true) : Region.free .any ops listed e.j = true := by
  obtain ⟨h1, h2, h3, h4⟩ := h.ent e he
  unfold Region.free
  rw [h1]
  simp only [List.all_eq_true]
  intro j hj
  have hj := List.mem_range.1 hj
  rw [Array.getElem?_eq_getElem hj]
  simp only
  unfold freeE at hf
  rw [h3, List.all_eq_true] at hf
  by_cases hc : (j == e.j || waitsOn ops[j] e.j || e.o.apart ops ops[j]) = true
  · simp only [Bool.or_eq_true] at hc ⊢
    rcases hc with (hc | hc) | hc
    · exact .inl (.inl hc)
    · exact .inr (.inl hc)
    · exact .inr (.inr hc)
  · have hm : j ∈ confl ops e.j e.o := by
      unfold confl
      refine List.mem_map.2 ⟨(ops[j], j), List.mem_filter.2 ⟨?_, by simpa using hc⟩, rfl⟩
      rw [List.mk_mem_zipIdx_iff_getElem?]
      simp [hj]
    have := hf j hm
    rw [testBit_listed h] at this
    have h5 : listed.getD j true = true := by
      rw [Array.getD_eq_getD_getElem?, Array.getElem?_eq_getElem (by rw [h.sz]; exact hj)] at this ⊢
      exact this
    simp [h5]
theorem inv_start (ops : Array Oper) : Inv ops (entsOf ops) 0 (Array.replicate ops.size false) where
  sz := by simp
  bit i hi := by simp [Array.getD_eq_getD_getElem?, hi]
  far i hi := by simp
  ent e he := by
    unfold entsOf at he
    obtain ⟨q, hq, rfl⟩ := List.mem_map.1 he
    have h1 := List.mk_mem_zipIdx_iff_getElem?.1 (show (q.1, q.2) ∈ ops.toList.zipIdx from hq)
    have h2 : ops[q.2]? = some q.1 := by simpa using h1
    exact ⟨h2, rfl, rfl, by simp [Array.getD_eq_getD_getElem?, lt_of_get h2]⟩
  all i hi _ := by
    refine ⟨⟨i, ops[i], preds ops[i], confl ops i ops[i]⟩, List.mem_map.2 ⟨(ops[i], i), ?_, rfl⟩, rfl⟩
    rw [List.mk_mem_zipIdx_iff_getElem?]
    simp [hi]
  dis := by
    unfold entsOf
    rw [List.pairwise_map]
    rw [List.pairwise_iff_getElem]
    intro i j hi hj hij
    simp at hi hj
    simp
    omega
section
variable {P : Program} {w0 : World} {R : Value → World → Prop} {Pn : List PanicEntry → World → Prop} {stable : List Nat} {X : St → List Value → List Nat → Prop} {ops : Array Oper}
  {σ : St} {ρ : List Value} {β : List Nat} {a : Act} {w : World} {o : Oper} {K : St → Option Tree} {t : Tree} {Q : Exit → Act → World → Prop}
theorem yield_of (hM : M w0 σ ρ β a w) {j : Nat} {x : At} (hx : ((ops[j]?).bind (·.dst)).bind σ.get = some (.one x)) {b : Bool} (hb : x.den ρ β = .bool b) :
    yielded ops a.tmps j = some b ∧ ∀ l m, x.den (ρ ++ l) (β ++ m) = .bool b := by
  obtain ⟨d, hd, hg⟩ := Option.bind_eq_some_iff.1 hx
  have h1 := hM.m0.tm d _ hg
  have h0 := hM.m0.at hg
  have h2 : ∀ l m, x.den (ρ ++ l) (β ++ m) = .bool b := fun l m => by
    have h3 := (h1 l m).symm.trans h0
    simp only [Tm.den, Option.some.injEq] at h3
    rw [h3]; exact hb
  refine ⟨?_, h2⟩
  unfold yielded
  rw [hd]
  simp only [Option.bind_some]
  rw [h0]
  simp only [Tm.den, hb]
theorem yield_none (hM : M w0 σ ρ β a w) {j : Nat} (hx : ((ops[j]?).bind (·.dst)).bind σ.get = some (.tup [])) : yielded ops a.tmps j = none := by
  obtain ⟨d, hd, hg⟩ := Option.bind_eq_some_iff.1 hx
  have h0 := hM.m0.at hg
  unfold yielded
  rw [hd]
  simp only [Option.bind_some]
  rw [h0]
  rfl
theorem gstep_sound (hX : Closed stable X) (hM : M w0 σ ρ β a w) (hx : X σ ρ β) (ht : gstep P stable ops σ o K = some t) (hs : sat P w0 R Pn t ρ w) (hQ : ∀ c a w, a.defers = [] → Pn c w → Below w0.heap.size w0 w → Q (.panic c) a w) :
    if Region.wanted o (yielded ops a.tmps) then o.wp P a w (Good P w0 R Pn X K) Q else Good P w0 R Pn X K (a.put o.dst undef) w := by
  unfold gstep at ht
  simp only [force_eq] at ht
  split at ht
  · rename_i hg
    rw [if_pos (by simp [Region.wanted, hg])]
    exact pstep_sound hX hM hx ht hs hQ
  · rename_i j want hg
    split at ht
    · rename_i x hxg
      split at ht
      · rename_i b hb
        have hy := (yield_of (ops := ops) hM hxg (hM.m0.boolOf hb)).1
        split at ht
        · rename_i hbw
          rw [if_pos (by simp [Region.wanted, hg, hy, hbw])]
          exact pstep_sound hX hM hx ht hs hQ
        · rename_i hbw
          rw [if_neg (by simp [Region.wanted, hg, hy, hbw])]
          exact skip_sound hX hM hx ht hs
      · split at ht
        · rename_i hnp
          split at ht
          · rename_i t1 e1 h1 h2
            injection ht with ht
            have hsx : ∃ b, x.den ρ [] = .bool b ∧ (b = want → sat P w0 R Pn t1 ρ w) ∧ (b ≠ want → sat P w0 R Pn e1 ρ w) := by
              subst ht
              cases want with
              | true =>
                obtain ⟨b, hb, k1, k2⟩ := hs
                exact ⟨b, hb, k1, fun hn => k2 (by simpa using hn)⟩
              | false =>
                obtain ⟨b, hb, k1, k2⟩ := hs
                exact ⟨b, hb, k2, fun hn => k1 (by simpa using hn)⟩
            obtain ⟨b, hb, k1, k2⟩ := hsx
            rw [At.den_noP hnp ρ [] β] at hb
            obtain ⟨hy, hext⟩ := yield_of (ops := ops) hM hxg hb
            by_cases hbw : b = want
            · rw [if_pos (by simp [Region.wanted, hg, hy, hbw])]
              exact pstep_sound hX (hM.know (hbw ▸ hext)) (hX.know hx _ _) h1 (k1 hbw) hQ
            · rw [if_neg (by simp [Region.wanted, hg, hy, hbw])]
              have hb2 : b = !want := by cases b <;> cases want <;> simp_all
              exact skip_sound hX (hM.know (hb2 ▸ hext)) (hX.know hx _ _) h2 (k2 hbw)
          · cases ht
        · cases ht
    · rename_i hxg
      rw [if_neg (by simp [Region.wanted, hg, yield_none (ops := ops) hM hxg])]
      exact skip_sound hX hM hx ht hs
    · cases ht
theorem exL_sound (hQ : ∀ c a w, a.defers = [] → Pn c w → Below w0.heap.size w0 w → Q (.panic c) a w) (hK : ∀ a w, Good P w0 R Pn (fun _ _ _ => True) K a w → Q .normal a w) :
    ∀ (l : List Oper) (σ : St) (ρ : List Value) (β : List Nat) (a : Act) (w : World) (t : Tree), M w0 σ ρ β a w → exL P [] ops l σ K = some t → sat P w0 R Pn t ρ w → wpList P ops Q l a w
  | [], σ, ρ, β, a, w, t, hM, ht, hs => hK a w ⟨σ, t, ρ, β, ht, trivial, hM, hs⟩
  | o :: r, σ, ρ, β, a, w, t, hM, ht, hs => by
    have h1 := gstep_sound closed_true hM trivial ht hs hQ
    have hm : ∀ a w, Good P w0 R Pn (fun _ _ _ => True) (fun σ' => exL P [] ops r σ' K) a w → wpList P ops Q r a w := fun a w ⟨σ', t', ρ', β', e1, _, e2, e3⟩ => exL_sound hQ hK r σ' ρ' β' a w t' e2 e1 e3
    unfold wpList
    split
    · rename_i hw
      rw [if_pos hw] at h1
      exact .inl (Oper.wp_mono hm h1)
    · rename_i hw
      rw [if_neg hw] at h1
      exact hm _ _ h1

/-! A region that draws its order. -/
/-- The stable variables are as they were. -/
def Sta (stable : List Nat) (gf : Nat → Nat) (vf : Nat → List Value) (tf : Nat → TypeId) (σ : St) (ρ : List Value) (β : List Nat) : Prop :=
  ∀ b, stable.contains b = true → ∃ cs, σ.bx[b]? = some (tf b, cs) ∧ β[b]? = some (gf b) ∧ ∀ l m, denL (ρ ++ l) (β ++ m) cs = vf b
theorem closed_sta (stable : List Nat) (gf : Nat → Nat) (vf : Nat → List Value) (tf : Nat → TypeId) : Closed stable (Sta stable gf vf tf) where
  put h d v b hb := by obtain ⟨cs, h1, h2⟩ := h b hb; exact ⟨cs, by cases d <;> exact h1, h2⟩
  know h x c b hb := by cases x <;> exact h b hb
  more h l b hb := by
    obtain ⟨cs, h1, h2, h3⟩ := h b hb
    exact ⟨cs, h1, h2, fun l' m => by rw [List.append_assoc]; exact h3 _ _⟩
  new h ty cs' g b hb := by
    obtain ⟨cs, h1, h2, h3⟩ := h b hb
    refine ⟨cs, ?_, ?_, fun l' m => by rw [List.append_assoc]; exact h3 _ _⟩
    · simp only [St.new]; rw [List.getElem?_append_left (List.getElem?_eq_some_iff.1 h1).1]; exact h1
    · rw [List.getElem?_append_left (List.getElem?_eq_some_iff.1 h2).1]; exact h2
  setb h b' e hb' b hb := by
    obtain ⟨cs, h1, h2⟩ := h b hb
    have hne : b' ≠ b := fun e => by rw [e, hb] at hb'; cases hb'
    refine ⟨cs, ?_, h2⟩
    simp only [St.setb]
    rw [List.getElem?_set_ne hne]
    exact h1
def StaW (stable : List Nat) (gf : Nat → Nat) (vf : Nat → List Value) (tf : Nat → TypeId) (w : World) : Prop := ∀ b, stable.contains b = true → Box w (gf b) (vf b) (tf b)
theorem sta_w {gf : Nat → Nat} {vf : Nat → List Value} {tf : Nat → TypeId} (hM : M w0 σ ρ β a w) (h : Sta stable gf vf tf σ ρ β) : StaW stable gf vf tf w := by
  intro b hb
  obtain ⟨cs, h1, h2, h3⟩ := h b hb
  obtain ⟨g, vs, e1, e2, e3, _⟩ := hM.m0.bx b _ h1
  rw [h2] at e1
  injection e1 with e1
  subst e1
  have : vs = vf b := (e2 [] []).symm.trans (h3 [] [])
  subst this
  exact e3
theorem stepK_take {gf : Nat → Nat} {vf : Nat → List Value} {tf : Nat → TypeId} (hM : M w0 σ ρ β a w) (hx : Sta stable gf vf tf σ ρ β) (hq : quietOut P stable σ o = true) (ht : stepK P stable σ o K = some t) (hs : sat P w0 R Pn t ρ w) :
    ∃ v, (∀ w', StaW stable gf vf tf w' → (execOp a.eval o).run P w' = .ok (.value v) w') ∧ Good P w0 R Pn (Sta stable gf vf tf) K (a.put o.dst v) w := by
  have hX := closed_sta stable gf vf tf
  have hwp := stepK_sound (Q := fun e _ w => match e with | .panic c => Pn c w ∧ Below w0.heap.size w0 w | _ => True) hX hM hx ht hs (fun c a w _ h1 h2 => ⟨h1, h2⟩)
  have hSw := sta_w hM hx
  have fin : ∀ v, (∀ w', StaW stable gf vf tf w' → (execOp a.eval o).run P w' = .ok (.value v) w') → ∃ v, (∀ w', StaW stable gf vf tf w' → (execOp a.eval o).run P w' = .ok (.value v) w') ∧ Good P w0 R Pn (Sta stable gf vf tf) K (a.put o.dst v) w := fun v hv => by
    refine ⟨v, hv, ?_⟩
    unfold Oper.wp at hwp
    rw [hv w hSw] at hwp
    exact hwp
  unfold stepK at ht
  unfold quietOut at hq
  split at ht
  · rename_i k out hout
    rw [hout] at hq
    split at ht
    · rename_i hc
      obtain ⟨hf, hk⟩ := hc
      obtain ⟨t1, ht1, rfl⟩ := Option.map_eq_some_iff.1 ht
      have hks : (∀ x ∈ k, LeafOk (x.den ρ [])) ∧ sat P w0 R Pn t1 ρ w := by
        cases k with
        | nil => exact ⟨fun x hx => (by cases hx), hs⟩
        | cons y r => exact hs
      have hok0 : OutOk P σ ρ β a o out := by
        refine out_sound hM.m0 hout fun x hx => ?_
        have := hks.1 x hx
        rw [At.den_noP (List.all_eq_true.1 hk x hx) ρ [] β] at this
        exact this
      cases out with
      | val v =>
        have h0 : ∀ w, _ := hok0
        exact fin _ (fun w' _ => h0 w')
      | load b v =>
        simp only at hq
        have h0 : ∀ e g w, _ := hok0
        obtain ⟨cs, h1, h2, h3⟩ := hx b hq
        refine fin _ (fun w' hw' => h0 _ _ w' h1 h2 ?_)
        have e3 := h3 [] []
        simp only [List.append_nil] at e3
        simp only [e3]
        exact hw' b hq
      | new ty cs => simp at hq
      | store b off ls => simp at hq
      | prim p args =>
        simp only [outK, force_eq] at ht1
        split at ht1
        · rename_i hn
          obtain ⟨t2, ht2, rfl⟩ := Option.map_eq_some_iff.1 ht1
          obtain ⟨v, hv, _⟩ := hks.2
          rw [denL_ext (β := β) hn] at hv
          have h0 : ∀ v, _ → ∀ w, _ := hok0
          exact fin _ (fun w' _ => h0 v hv w')
        · cases ht1
      | call f args sh => simp at hq
      | row e cs n k1 => simp at hq
    · cases ht
  · cases ht
theorem pstep_take {gf : Nat → Nat} {vf : Nat → List Value} {tf : Nat → TypeId} (hM : M w0 σ ρ β a w) (hx : Sta stable gf vf tf σ ρ β) (hq : quietP P stable σ o = true) (ht : pstep P stable σ o K = some t) (hs : sat P w0 R Pn t ρ w) :
    ∃ v, (∀ w', StaW stable gf vf tf w' → (execOp a.eval o).run P w' = .ok (.value v) w') ∧ Good P w0 R Pn (Sta stable gf vf tf) K (a.put o.dst v) w := by
  have hX := closed_sta stable gf vf tf
  unfold pstep at ht
  unfold quietP at hq
  simp only [force_eq] at ht
  split at ht
  · rename_i hj
    rw [hj] at hq
    exact stepK_take hM hx hq ht hs
  · rename_i j hj
    rw [hj] at hq
    simp only [Bool.and_eq_true] at hq
    split at ht
    · rename_i t1 e1 h1 h2
      injection ht with ht
      subst ht
      obtain ⟨b, hb, k1, k2⟩ := hs
      have hext := pickJ_ext (β := β) hb
      cases b with
      | true => exact stepK_take (hM.know hext) (hX.know hx _ _) hq.1 h1 (k1 rfl)
      | false => exact stepK_take (hM.know hext) (hX.know hx _ _) hq.2 h2 (k2 rfl)
    · cases ht
theorem gstep_take {gf : Nat → Nat} {vf : Nat → List Value} {tf : Nat → TypeId} (hM : M w0 σ ρ β a w) (hx : Sta stable gf vf tf σ ρ β) (hq : takeB P stable ops σ o = true) (ht : gstep P stable ops σ o K = some t) (hs : sat P w0 R Pn t ρ w) :
    ∃ v, YieldsIf P ops (StaW stable gf vf tf) o v a ∧ Good P w0 R Pn (Sta stable gf vf tf) K (a.put o.dst v) w := by
  have hX := closed_sta stable gf vf tf
  unfold gstep at ht
  simp only [force_eq] at ht
  unfold takeB at hq
  split at ht
  · rename_i hg
    rw [hg] at hq
    obtain ⟨v, h1, h2⟩ := pstep_take hM hx hq ht hs
    exact ⟨v, .inl ⟨by simp [Region.wanted, hg], h1⟩, h2⟩
  · rename_i j want hg
    rw [hg] at hq
    simp only at hq
    split at ht
    · rename_i x hxg
      rw [hxg] at hq
      simp only at hq
      split at ht
      · rename_i b hb
        have hy := (yield_of (ops := ops) hM hxg (hM.m0.boolOf hb)).1
        rw [hb] at hq
        simp only at hq
        split at ht
        · rename_i hbw
          rw [if_pos hbw] at hq
          obtain ⟨v, h1, h2⟩ := pstep_take hM hx hq ht hs
          exact ⟨v, .inl ⟨by simp [Region.wanted, hg, hy, hbw], h1⟩, h2⟩
        · rename_i hbw
          exact ⟨undef, .inr ⟨by simp [Region.wanted, hg, hy, hbw], rfl⟩, skip_sound hX hM hx ht hs⟩
      · rename_i hbn
        rw [hbn] at hq
        simp only at hq
        split at ht
        · rename_i hnp
          split at ht
          · rename_i t1 e1 h1 h2
            injection ht with ht
            have hsx : ∃ b, x.den ρ [] = .bool b ∧ (b = want → sat P w0 R Pn t1 ρ w) ∧ (b ≠ want → sat P w0 R Pn e1 ρ w) := by
              subst ht
              cases want with
              | true =>
                obtain ⟨b, hb, k1, k2⟩ := hs
                exact ⟨b, hb, k1, fun hn => k2 (by simpa using hn)⟩
              | false =>
                obtain ⟨b, hb, k1, k2⟩ := hs
                exact ⟨b, hb, k2, fun hn => k1 (by simpa using hn)⟩
            obtain ⟨b, hb, k1, k2⟩ := hsx
            rw [At.den_noP hnp ρ [] β] at hb
            obtain ⟨hy, hext⟩ := yield_of (ops := ops) hM hxg hb
            by_cases hbw : b = want
            · obtain ⟨v, h3, h4⟩ := pstep_take (hM.know (hbw ▸ hext)) (hX.know hx _ _) hq h1 (k1 hbw)
              exact ⟨v, .inl ⟨by simp [Region.wanted, hg, hy, hbw], h3⟩, h4⟩
            · have hb2 : b = !want := by cases b <;> cases want <;> simp_all
              exact ⟨undef, .inr ⟨by simp [Region.wanted, hg, hy, hbw], rfl⟩, skip_sound hX (hM.know (hb2 ▸ hext)) (hX.know hx _ _) h2 (k2 hbw)⟩
          · cases ht
        · cases ht
    · rename_i hxg
      exact ⟨undef, .inr ⟨by simp [Region.wanted, hg, yield_none (ops := ops) hM hxg], rfl⟩, skip_sound hX hM hx ht hs⟩
    · cases ht
theorem exM_sound {gf : Nat → Nat} {vf : Nat → List Value} {tf : Nat → TypeId} (hsel : Region.noSelect ops = true) (hQ : ∀ c a w, a.defers = [] → Pn c w → Below w0.heap.size w0 w → Q (.panic c) a w) (hPf : ∀ c d v a w, Q (.panic c) (a.put d v) w → Q (.panic c) a w)
    (hK : ∀ a w, Good P w0 R Pn (fun _ _ _ => True) K a w → Q .normal a w) :
    ∀ (n : Nat) (cand : List Ent) (L : Nat) (listed : Array Bool) (σ : St) (ρ : List Value) (β : List Nat) (a : Act) (w : World) (t : Tree), Inv ops cand L listed → M w0 σ ρ β a w → Sta stable gf vf tf σ ρ β → exM P stable ops n cand L σ K = some t → sat P w0 R Pn t ρ w →
      wpAnyH P .any ops Q (StaW stable gf vf tf) n listed a w := by
  have hnil : ∀ (L : Nat) (listed : Array Bool), Inv ops [] L listed → Region.ready .any ops listed = [] := fun L listed hI => by
    rw [List.eq_nil_iff_forall_not_mem]
    intro i hi
    obtain ⟨hu, o, ho, _⟩ := mem_ready.1 hi
    obtain ⟨e, he, _⟩ := hI.all i (lt_of_get ho) hu
    cases he
  intro n
  induction n with
  | zero =>
    intro cand L listed σ ρ β a w t hI hM hx ht hs
    unfold exM at ht
    split at ht
    · exact ⟨hnil _ _ hI, hK a w ⟨σ, t, ρ, β, ht, trivial, hM, hs⟩⟩
    · cases ht
  | succ n ih =>
    intro cand L listed σ ρ β a w t hI hM hx ht hs
    unfold exM at ht
    split at ht
    · exact wpAnyH_done (hnil _ _ hI) (hK a w ⟨σ, t, ρ, β, ht, trivial, hM, hs⟩) _
    · rename_i c cs
      simp only [forceN_eq] at ht
      have hm : ∀ e r, Inv ops (e :: r) L listed → ∀ a w, Good P w0 R Pn (Sta stable gf vf tf) (fun σ' => exM P stable ops n r (L ||| 2 ^ e.j) σ' K) a w → StaW stable gf vf tf w ∧ wpAnyH P .any ops Q (StaW stable gf vf tf) n (listed.setIfInBounds e.j true) a w :=
        fun e r hI2 a w ⟨σ', t', ρ', β', e1, e0, e2, e3⟩ => ⟨sta_w e2 e0, ih _ _ _ σ' ρ' β' a w t' hI2.next e2 e0 e1 e3⟩
      split at ht
      · rename_i e r hp
        obtain ⟨hperm, hf⟩ := pickT_perm hp
        simp only [Bool.and_eq_true] at hf
        obtain ⟨⟨hr, hfr⟩, htk⟩ := hf
        have hI2 := hI.perm hperm
        have hmem : e ∈ c :: cs := hperm.mem_iff.2 (List.mem_cons_self ..)
        obtain ⟨v, h1, h2⟩ := gstep_take hM hx htk ht hs
        exact wpAnyH_take (hI.ent e hmem).1 hsel (free_of hI hmem hfr) (List.contains_iff_mem.2 ((ready_iff hI hmem).2 hr)) (fun c a w h => hPf c _ _ a w h) h1 (sta_w hM hx) (hm e r hI2 _ _ h2).2
      · obtain ⟨hne, hall⟩ := allEq_spec ht
        refine ⟨fun h0 => ?_, fun i hi => ?_⟩
        · obtain ⟨y, hy⟩ := List.exists_mem_of_ne_nil _ hne
          obtain ⟨q, hq, _⟩ := List.mem_map.1 hy
          obtain ⟨hperm, hf⟩ := picks_perm hq
          have hmem : q.1 ∈ c :: cs := hperm.mem_iff.2 (List.mem_cons_self ..)
          have := (ready_iff hI hmem).2 hf
          rw [h0] at this
          cases this
        · obtain ⟨hu, o, ho, _⟩ := mem_ready.1 hi
          obtain ⟨e, he, rfl⟩ := hI.all i (lt_of_get ho) hu
          obtain ⟨r, hr⟩ := picks_all (f := fun e => readyE e L) ((ready_iff hI he).1 hi) he
          have h1 := hall _ (List.mem_map.2 ⟨_, hr, rfl⟩)
          obtain ⟨hperm, hf⟩ := picks_perm hr
          have hI2 := hI.perm hperm
          have h2 := gstep_sound (closed_sta stable gf vf tf) hM hx h1 hs hQ
          unfold wpOp
          rw [(hI.ent e he).1]
          simp only
          split
          · rename_i hw
            rw [if_pos hw] at h2
            exact .inl (Oper.wp_mono (hm e r hI2) h2)
          · rename_i hw
            rw [if_neg hw] at h2
            exact hm e r hI2 _ _ h2
/-- A region that draws its order. -/
theorem exDraw_sound {id : Nat} (hm : P.follows .mixedOrders = true) (hsel : Region.noSelect ops = true) (hQ : ∀ c a w, a.defers = [] → Pn c w → Below w0.heap.size w0 w → Q (.panic c) a w) (hPf : ∀ c d v a w, Q (.panic c) (a.put d v) w → Q (.panic c) a w)
    (hK : ∀ a w, Good P w0 R Pn (fun _ _ _ => True) K a w → Q .normal a w) (hM : M w0 σ ρ β a w) (ht : exDraw P (stableOf σ ops) ops σ K = some t) (hs : sat P w0 R Pn t ρ w) :
    (Code.region id ops true).wp P Q a w := by
  unfold exDraw at ht
  rw [forceE_eq] at ht
  refine wp_region_held hm (exM_sound (stable := stableOf σ ops) (gf := fun b => β.getD b 0) (vf := fun b => denL ρ β ((σ.bx.getD b (0, [])).2)) (tf := fun b => (σ.bx.getD b (0, [])).1) hsel hQ hPf hK _ _ _ _ σ ρ β a w.drew t (inv_start ops) hM.drew ?_ ht (sat_mono P hs (Le.drew hM.le)))
  intro b hb
  have hb2 : b < σ.bx.length := by
    have := List.contains_iff_mem.1 hb
    unfold stableOf at this
    exact List.mem_range.1 (List.mem_filter.1 this).1
  obtain ⟨g, vs, e1, e2, e3, _⟩ := hM.m0.bx b _ (List.getElem?_eq_getElem hb2)
  refine ⟨σ.bx[b].2, ?_, ?_, fun l m => ?_⟩
  · simp only [List.getD_eq_getElem?_getD, List.getElem?_eq_getElem hb2, Option.getD_some]
  · simp only [List.getD_eq_getElem?_getD, e1, Option.getD_some]
  · simp only [e2 l m, List.getD_eq_getElem?_getD, List.getElem?_eq_getElem hb2, Option.getD_some]
    have := e2 [] []
    simp only [List.append_nil] at this
    exact this.symm
end
end Sx
end Go.Proofs.YtaifjldpjkabjaaDoor
namespace Go.Proofs.YtaifjldpjkabjaaDoor
open Go.RowKit
namespace Sx
section
variable (P : Program)
def compT : Tm → Option (Bool × List At)
  | .one x => some (false, [x])
  | .ag l => some (true, l)
  | .tup _ => none
def resT (σ : St) : ResultVar → Option Tm
  | .tmp t => σ.get t
  | .cell t ty => match σ.get t, szOf P ty, rowB P ty with
    | some (.one (.ptr b off)), some n, some row => match σ.bx[b]? with
      | some (_, cs) =>
        if off + n ≤ cs.length then
          if row then some (.ag ((cs.drop off).take n))
          else if n = 1 then (cs[off]?).map .one else none
        else none
      | none => none
    | _, _, _ => none
def resTs (σ : St) : List ResultVar → Option (List (Bool × List At))
  | [] => some []
  | r :: rs => match (resT P σ r).bind compT, resTs σ rs with
    | some c, some l => some (c :: l)
    | _, _ => none
def retT (σ : St) : List ResultVar → Option Tm
  | [r] => resT P σ r
  | rs => (resTs P σ rs).map .tup
def retK (fn : Func) (σ : St) : Option Tree := (retT P σ fn.results.toList).bind fun v => if v.noP then some (.ret v) else none
def exC (fn : Func) : Code → St → (St → Option Tree) → List (Nat × (St → Option Tree)) → Option Tree
  | .skip, σ, K, _ => K σ
  | .region _ ops false, σ, K, _ => exL P [] ops ops.toList σ K
  | .region _ ops true, σ, K, _ => if Region.noSelect ops then forceL (stableOf σ ops) fun st => exDraw P st ops σ K else none
  | .seq x y, σ, K, B => exC fn x σ (fun σ' => exC fn y σ' K B) B
  | .cond c x y, σ, K, B => match σ.evAt c with
    | some z => match σ.boolOf z with
      | some b => if b then exC fn x σ K B else exC fn y σ K B
      | none => if z.noP then match force (σ.know z true) (fun σ => exC fn x σ K B), force (σ.know z false) (fun σ => exC fn y σ K B) with
          | some t, some e => some (.ite z t e)
          | _, _ => none
        else none
    | none => none
  | .block id b, σ, K, B => exC fn b σ K ((id, K) :: B)
  | .exit id, σ, _, B => match B.lookup id with
    | some K => K σ
    | none => none
  | .ret, σ, _, _ => retK P fn σ
  | _, _, _, _ => none
def compT' : Bool × List At → Tm
  | (true, l) => .ag l
  | (false, [x]) => .one x
  | (false, l) => .ag l
def slots : Nat → List (Bool × List At) → List (Nat × Option Tm)
  | _, [] => []
  | k, c :: r => (k, some (compT' c)) :: slots (k + 1) r
def st0 (shs : List (Bool × Nat)) (size : Nat) : St := { tm := slots 0 (tupT 0 shs), bx := [], kb := [], n := (shs.map (·.2)).sum, size := size }
def shsOf (f : FuncId) : Option (List (Bool × Nat)) := (P.funcs[f]?).bind fun fn => shTs P fn.params.toList
/-- The tree of a function, some of whose parameters are known functions. -/
def treeWith (f : FuncId) (fx : List (Nat × FuncId)) : Option Tree :=
  match P.funcs[f]? with
  | some fn => match fn.body, shTs P fn.params.toList with
    | some c, some shs => if shs.length ≤ fn.ntmps then forceL (fx.map (fun q => (q.1, some (.one (.fn q.2)))) ++ slots 0 (tupT 0 shs)) fun tm => forceN ((shs.map (·.2)).sum) fun n => exC P fn c ⟨tm, [], [], n, fn.ntmps⟩ (retK P fn) [] else none
    | _, _ => none
  | none => none
def treeOf (f : FuncId) : Option Tree := treeWith P f []
end
def resOne (tmps : Array Value) : ResultVar → Sem Value
  | .tmp t => pure (tmps.getD t undef)
  | .cell a t => do loadVar t (← asAddr (tmps.getD a undef))
section
variable {P : Program} {w0 : World} {R : Value → World → Prop} {Pn : List PanicEntry → World → Prop}
  {σ : St} {ρ : List Value} {β : List Nat} {a : Act} {w : World} {o : Oper} {K : St → Option Tree} {t : Tree} {Q : Exit → Act → World → Prop}
theorem resT_ok (hM : M w0 σ ρ β a w) {r : ResultVar} {v : Tm} (h : resT P σ r = some v) : (resOne a.tmps r).run P w = .ok (v.den ρ β) w := by
  cases r with
  | tmp t =>
    simp only [resT] at h
    simp only [resOne, hM.m0.getD h, Sem.run_pure]
  | cell t ty =>
    simp only [resT] at h
    split at h
    · rename_i b off n row hx hn hr
      split at h
      · rename_i ty' cs hb
        obtain ⟨g, vs, e1, e2, e3, _⟩ := hM.m0.bx b _ hb
        have ed : denL ρ β cs = vs := by have := e2 [] []; simpa using this
        have hB : Box w g (denL ρ β cs) ty' := by rw [ed]; exact e3
        split at h
        · rename_i hle
          have h1 := load_ok (ρ := ρ) (β := β) (e := (ty', cs)) hn hr hB hle
          simp only [resOne, hM.m0.getD hx, Tm.den, den_ptr e1, asAddr, Sem.run_bind, Sem.run_pure, Result.andThen_ok]
          split at h
          · rename_i hrow
            injection h with h
            subst h
            exact h1.1 hrow
          · rename_i hrow
            split at h
            · obtain ⟨y, hy, rfl⟩ := Option.map_eq_some_iff.1 h
              exact h1.2 (by simpa using hrow) y hy
            · cases h
        · cases h
      · cases h
    · cases h
theorem comp_den {T : Tm} {c : Bool × List At} (h : compT T = some c) : denC ρ β c = T.den ρ β := by
  cases T <;> simp only [compT, Option.some.injEq, reduceCtorEq] at h
  · subst h; rfl
  · subst h; rfl
theorem resTs_ok (hM : M w0 σ ρ β a w) : ∀ {rs : List ResultVar} {l : List (Bool × List At)}, resTs P σ rs = some l →
    (rs.mapM (resOne a.tmps)).run P w = .ok (l.map (denC ρ β)) w
  | [], l, h => by simp only [resTs, Option.some.injEq] at h; subst h; rfl
  | r :: rs, l, h => by
    unfold resTs at h
    split at h
    · rename_i c l' hc hl
      injection h with h
      subst h
      obtain ⟨T, hT, hcT⟩ := Option.bind_eq_some_iff.1 hc
      rw [List.mapM_cons, Sem.run_bind, resT_ok hM hT, Result.andThen_ok, Sem.run_bind, resTs_ok hM hl, Result.andThen_ok, Sem.run_pure]
      rw [List.map_cons, comp_den hcT]
    · cases h
theorem retT_ok (hM : M w0 σ ρ β a w) {fn : Func} {v : Tm} (h : retT P σ fn.results.toList = some v) : (results fn a.tmps).run P w = .ok (v.den ρ β) w := by
  show ((do let vs ← fn.results.mapM (resOne a.tmps); pure (if h : vs.size = 1 then vs[0] else .tuple vs) : Sem Value)).run P w = _
  rw [Sem.run_bind, Array.mapM_eq_mapM_toList]
  unfold retT at h
  split at h
  · rename_i r hr
    have h1 := resT_ok hM h
    rw [hr]
    simp only [Sem.run_map, List.mapM_cons, List.mapM_nil, Sem.run_bind, h1, Result.andThen_ok, Sem.run_pure]
    rfl
  · rename_i rs hne
    obtain ⟨l, hl, rfl⟩ := Option.map_eq_some_iff.1 h
    have h1 := resTs_ok hM hl
    simp only [Sem.run_map, h1, Result.andThen_ok]
    have hlen : l.length = fn.results.toList.length := by
      have : ∀ {rs : List ResultVar} {l : List (Bool × List At)}, resTs P σ rs = some l → l.length = rs.length := by
        intro rs
        induction rs with
        | nil => intro l h; simp only [resTs, Option.some.injEq] at h; subst h; rfl
        | cons r rs ih =>
          intro l h
          unfold resTs at h
          split at h
          · rename_i c l' hc hl
            injection h with h
            subst h
            simp [ih hl]
          · cases h
      exact this hl
    have hn1 : l.length ≠ 1 := by
      rw [hlen]
      intro e
      obtain ⟨r, hr⟩ := List.length_eq_one_iff.1 e
      exact hne r hr
    simp [Tm.den, hn1]
/-- What a function's call comes to. -/
def EndOk (w0 : World) (R : Value → World → Prop) (Pn : List PanicEntry → World → Prop) (e : Ending) (w : World) : Prop :=
  match e with
  | .returned v => R v w ∧ Below w0.heap.size w0 w
  | .panicked c => Pn c w ∧ Below w0.heap.size w0 w
  | .outgrown => False
theorem exC_sound (hm : P.follows .mixedOrders = true) (fn : Func) : ∀ (c : Code) (Q : Exit → Act → World → Prop) (K : St → Option Tree) (B : List (Nat × (St → Option Tree))) (σ : St) (ρ : List Value) (β : List Nat) (a : Act) (w : World) (t : Tree),
    (∀ c a w, a.defers = [] → Pn c w → Below w0.heap.size w0 w → Q (.panic c) a w) → (∀ c d v a w, Q (.panic c) (a.put d v) w → Q (.panic c) a w) → (∀ a w, Good P w0 R Pn (fun _ _ _ => True) K a w → Q .normal a w) →
    (∀ id Kb, B.lookup id = some Kb → ∀ a w, Good P w0 R Pn (fun _ _ _ => True) Kb a w → Q (.exit id) a w) → (∀ a w, Good P w0 R Pn (fun _ _ _ => True) (retK P fn) a w → Q .ret a w) →
    M w0 σ ρ β a w → exC P fn c σ K B = some t → sat P w0 R Pn t ρ w → c.wp P Q a w
  | .skip, Q, K, B, σ, ρ, β, a, w, t, _, _, hK, _, _, hM, ht, hs => wp_skip (hK a w ⟨σ, t, ρ, β, ht, trivial, hM, hs⟩)
  | .region id ops false, Q, K, B, σ, ρ, β, a, w, t, hQ, _, hK, _, _, hM, ht, hs => wp_region_list (exL_sound hQ hK ops.toList σ ρ β a w t hM ht hs)
  | .region id ops true, Q, K, B, σ, ρ, β, a, w, t, hQ, hPf, hK, _, _, hM, ht, hs => by
    simp only [exC, forceL_eq] at ht
    split at ht
    · rename_i hsel
      exact exDraw_sound hm hsel hQ hPf hK hM ht hs
    · cases ht
  | .seq x y, Q, K, B, σ, ρ, β, a, w, t, hQ, hPf, hK, hB, hR, hM, ht, hs => by
    refine wp_seq (exC_sound hm fn x _ (fun σ' => exC P fn y σ' K B) B σ ρ β a w t hQ hPf ?_ hB hR hM ht hs)
    rintro a' w' ⟨σ', t', ρ', β', e1, _, e2, e3⟩
    exact exC_sound hm fn y Q K B σ' ρ' β' a' w' t' hQ hPf hK hB hR e2 e1 e3
  | .cond c x y, Q, K, B, σ, ρ, β, a, w, t, hQ, hPf, hK, hB, hR, hM, ht, hs => by
    simp only [exC, force_eq] at ht
    split at ht
    · rename_i z hz
      have hev := hM.m0.evalAt hz
      split at ht
      · rename_i b hb
        have hzb := hM.m0.boolOf hb
        refine wp_cond (t := b) (hev.trans hzb) ?_
        cases b with
        | true => exact exC_sound hm fn x Q K B σ ρ β a w t hQ hPf hK hB hR hM ht hs
        | false => exact exC_sound hm fn y Q K B σ ρ β a w t hQ hPf hK hB hR hM ht hs
      · split at ht
        · rename_i hnp
          split at ht
          · rename_i t1 e1 h1 h2
            injection ht with ht
            subst ht
            obtain ⟨b, hb, k1, k2⟩ := hs
            rw [At.den_noP hnp ρ [] β] at hb
            refine wp_cond (t := b) (hev.trans hb) ?_
            have hext : ∀ l m, z.den (ρ ++ l) (β ++ m) = .bool b := by
              unfold St.evAt at hz
              obtain ⟨T, hT, hz⟩ := Option.bind_eq_some_iff.1 hz
              have hT2 := fun l m => (hM.m0.ext l m).eval hT
              have hTz : T = .one z := by cases T <;> simp only [asAt, Option.some.injEq, reduceCtorEq] at hz; rw [hz]
              subst hTz
              intro l m
              have h5 := (hT2 l m).symm.trans hev
              simp only [Tm.den] at h5
              rw [h5]; exact hb
            cases b with
            | true => exact exC_sound hm fn x Q K B _ ρ β a w t1 hQ hPf hK hB hR (hM.know hext) h1 (k1 rfl)
            | false => exact exC_sound hm fn y Q K B _ ρ β a w e1 hQ hPf hK hB hR (hM.know hext) h2 (k2 rfl)
          · cases ht
        · cases ht
    · cases ht
  | .block id b, Q, K, B, σ, ρ, β, a, w, t, hQ, hPf, hK, hB, hR, hM, ht, hs => by
    refine wp_block (exC_sound hm fn b (Exit.inBlock id Q) K ((id, K) :: B) σ ρ β a w t hQ hPf hK ?_ hR hM ht hs)
    intro id' Kb hl a' w' hG
    simp only [List.lookup] at hl
    simp only [Exit.inBlock]
    split at hl
    · rename_i e
      injection hl with hl
      subst hl
      rw [if_pos (by simpa using e)]
      exact hK a' w' hG
    · rename_i e
      rw [if_neg (by simpa using e)]
      exact hB id' Kb hl a' w' hG
  | .exit id, Q, K, B, σ, ρ, β, a, w, t, _, _, _, hB, _, hM, ht, hs => by
    simp only [exC] at ht
    split at ht
    · rename_i Kb hl
      exact wp_exit (hB id Kb hl a w ⟨σ, t, ρ, β, ht, trivial, hM, hs⟩)
    · cases ht
  | .ret, Q, K, B, σ, ρ, β, a, w, t, _, _, _, _, hR, hM, ht, hs => wp_ret (hR a w ⟨σ, t, ρ, β, ht, trivial, hM, hs⟩)
  | .loop _, _, _, _, _, _, _, _, _, _, _, _, _, _, _, _, ht, _ => by simp [exC] at ht
  | .rangeFunc _ _ _ _, _, _, _, _, _, _, _, _, _, _, _, _, _, _, _, ht, _ => by simp [exC] at ht
  | .scope _, _, _, _, _, _, _, _, _, _, _, _, _, _, _, _, ht, _ => by simp [exC] at ht
  | .label _, _, _, _, _, _, _, _, _, _, _, _, _, _, _, _, ht, _ => by simp [exC] at ht
  | .goto _, _, _, _, _, _, _, _, _, _, _, _, _, _, _, _, ht, _ => by simp [exC] at ht
  | .refuse _, _, _, _, _, _, _, _, _, _, _, _, _, _, _, _, ht, _ => by simp [exC] at ht
theorem lookN_append {α : Type} (t : Nat) : ∀ l l' : List (Nat × α), lookN t (l ++ l') = match lookN t l with | some x => some x | none => lookN t l'
  | [], _ => rfl
  | (k, x) :: r, l' => by
    simp only [List.cons_append, lookN]
    split
    · rfl
    · exact lookN_append t r l'
theorem lookN_mem {α : Type} {t : Nat} : ∀ {l : List (Nat × α)} {x : α}, lookN t l = some x → (t, x) ∈ l
  | (k, y) :: r, x, h => by
    simp only [lookN] at h
    split at h
    · rename_i e; injection h with h; subst e h; exact List.mem_cons_self ..
    · exact List.mem_cons_of_mem _ (lookN_mem h)
theorem slots_ok {xs : Array Value} {cs : List (Bool × List At)} (hc : ∀ (j : Nat) (c : Bool × List At), cs[j]? = some c → ∀ l m, xs[j]? = some ((compT' c).den (ρ ++ l) (β ++ m))) : ∀ (r : List (Bool × List At)) (k : Nat), (∀ j : Nat, r[j]? = cs[k + j]?) →
    ∀ (t : Nat) (T : Tm), (match lookN t (slots k r) with | some x => x | none => none) = some T → ∀ l m, xs[t]? = some (T.den (ρ ++ l) (β ++ m))
  | [], _, _, t, T, h => by simp [slots, lookN] at h
  | c :: r, k, hr, t, T, h => by
    by_cases e : t = k
    · subst e
      simp only [slots, lookN, if_true, Option.some.injEq] at h
      subst h
      exact hc t c (by have := hr 0; simpa using this.symm)
    · simp only [slots, lookN, if_neg e] at h
      exact slots_ok hc r (k + 1) (fun j => by have := hr (j + 1); simpa [Nat.add_assoc, Nat.add_comm 1 j] using this) t T h
theorem comp'_den {c : Bool × List At} (h : c.1 = false → ∃ x, c.2 = [x]) (ρ : List Value) (β : List Nat) : (compT' c).den ρ β = denC ρ β c := by
  obtain ⟨b, l⟩ := c
  cases b with
  | true => rfl
  | false =>
    obtain ⟨x, hx⟩ := h rfl
    simp only at hx
    subst hx
    rfl
theorem tupT_one : ∀ {ks : List (Bool × Nat)} {n : Nat}, (∀ c ∈ ks, c.1 = false → c.2 = 1) → ∀ c ∈ tupT n ks, c.1 = false → ∃ x, c.2 = [x]
  | [], _, _, c, hc, _ => by cases hc
  | (b, k) :: r, n, h, c, hc, hf => by
    rcases List.mem_cons.1 (show c ∈ (b, lfs n k) :: tupT (n + k) r from hc) with rfl | hc
    · have := h (b, k) (List.mem_cons_self ..) hf
      simp only at this
      subst this
      exact ⟨_, rfl⟩
    · exact tupT_one (fun c hc => h c (List.mem_cons_of_mem _ hc)) c hc hf
theorem ret_post {fn : Func} {ρ : List Value} {a : Act} {w : World} {σ : St} {β : List Nat} {t : Tree} (ht : retK P fn σ = some t) (hM : M w0 σ ρ β a w) (hs : sat P w0 R Pn t ρ w) : a.defers = [] ∧ ∃ v, (results fn a.tmps).run P w = .ok v w ∧ EndOk w0 R Pn (.returned v) w := by
  unfold retK at ht
  obtain ⟨v, hv, ht⟩ := Option.bind_eq_some_iff.1 ht
  split at ht
  · rename_i hn
    injection ht with ht
    subst ht
    refine ⟨hM.m0.df, _, retT_ok hM hv, ?_, hM.le⟩
    have h1 := hs w (Le.refl hM.le)
    rw [Tm.den_noP hn ρ [] β] at h1
    exact h1
  · cases ht
/-- **A function's call, by its tree.** -/
theorem sx_calls (hm : P.follows .mixedOrders = true) {f : FuncId} {fx : List (Nat × FuncId)} {ls : List Value} {shs : List (Bool × Nat)} (hsh : shsOf P f = some shs) (ht : treeWith P f fx = some t) (hl : ls.length = (shs.map (·.2)).sum) (h1 : ∀ c ∈ shs, c.1 = false → c.2 = 1)
    (hfx : ∀ q ∈ fx, (tupV ls shs)[q.1]? = some (.func (.func q.2) #[] #[])) (hs : sat P w0 R Pn t ls w0) : Calls P f (tupV ls shs).toArray w0 (EndOk w0 R Pn) := by
  unfold treeWith at ht
  unfold shsOf at hsh
  split at ht
  · rename_i fn hf
    rw [hf] at hsh
    simp only [Option.bind_some] at hsh
    split at ht
    · rename_i c shs' hb hsh'
      rw [hsh] at hsh'
      injection hsh' with hsh'
      subst hsh'
      simp only [forceL_eq, forceN_eq] at ht
      split at ht
      · rename_i hn
        have hlen : ∀ (vs : List Value) (ks : List (Bool × Nat)), (tupV vs ks).length = ks.length := by
          intro vs ks
          induction ks generalizing vs with
          | nil => rfl
          | cons k r ih => obtain ⟨b, k⟩ := k; simp [tupV, ih]
        refine calls_of_wp hf hb (exC_sound hm fn c _ (retK P fn) [] ⟨fx.map (fun q => (q.1, some (.one (.fn q.2)))) ++ slots 0 (tupT 0 shs), [], [], (shs.map (·.2)).sum, fn.ntmps⟩ ls [] _ w0 t ?_ ?_ ?_ ?_ ?_ ?_ ht hs)
        · intro c a w h1 h2 h3
          exact ⟨h1, h2, h3⟩
        · intro c d v a w ⟨h1, h2⟩
          exact ⟨by rw [put_defers] at h1; exact h1, h2⟩
        · rintro a w ⟨σ', t', ρ', β', e1, _, e2, e3⟩
          exact ret_post e1 e2 e3
        · intro id Kb hl; cases hl
        · rintro a w ⟨σ', t', ρ', β', e1, _, e2, e3⟩
          exact ret_post e1 e2 e3
        · have htup := fun (l : List Value) (m : List Nat) => tup_den [] ls l m shs 0 (by omega)
          simp only [List.length_nil, Nat.zero_add, List.nil_append, List.drop_zero] at htup
          have hone := tupT_one (n := 0) h1
          refine ⟨⟨rfl, ?_, ?_, ?_, ?_⟩, ?_, rfl, hl, Below.refl _ _⟩
          · simp [hlen]; omega
          · intro t T hT l m
            simp only [St.get, lookN_append] at hT
            cases hq : lookN t (fx.map fun q => (q.1, some (Tm.one (.fn q.2)))) with
            | some x =>
              rw [hq] at hT
              simp only at hT
              subst hT
              obtain ⟨q, hqm, e⟩ := List.mem_map.1 (lookN_mem hq)
              injection e with e1 e2
              injection e2 with e2
              subst e1 e2
              have h3 := hfx q hqm
              have hj2 : q.1 < (tupV ls shs).length := (List.getElem?_eq_some_iff.1 h3).1
              rw [Array.getElem?_append_left (by simpa using hj2)]
              simpa [Tm.den, At.den] using h3
            | none =>
            rw [hq] at hT
            refine slots_ok (cs := tupT 0 shs) (fun j c hj l m => ?_) (tupT 0 shs) 0 (fun j => by rw [Nat.zero_add]) t T hT l m
            have hmem := List.mem_of_getElem? hj
            rw [comp'_den (hone c hmem), List.nil_append]
            have h3 : (tupV ls shs)[j]? = some (denC (ls ++ l) m c) := by
              rw [← htup l m, List.getElem?_map, hj]
              rfl
            have hj2 : j < (tupV ls shs).length := (List.getElem?_eq_some_iff.1 h3).1
            rw [Array.getElem?_append_left (by simpa using hj2)]
            simpa using h3
          · intro b e he; simp at he
          · intro x b hx; simp [lookN] at hx
          · intro b b' g hg; simp at hg
      · cases ht
    · cases ht
  · cases ht
end
end Sx
end Go.Proofs.YtaifjldpjkabjaaDoor
