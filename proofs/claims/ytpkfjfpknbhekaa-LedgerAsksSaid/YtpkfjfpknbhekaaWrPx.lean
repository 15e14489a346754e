/- Records as bytes, plainly; the operations on bytes. Rows of rows, tubes, records as data; variables that functions write. -/
import Derived.Test.YtpkfjfpknbhekaaBxPx
import Derived.Test.YtpkfjfpknbhekaaSeqIx
namespace Go.Proofs.Ytpkfjfpknbhekaa
open Go.RowKit Pl

/-- A number, in groups of seven bits. -/
def numF : Nat → Nat → List Nat
  | 0, n => [n]
  | k + 1, n => bif decide (n < 128) then [n] else (n % 128 + 128) :: numF k (n / 128)
def numB (n : Nat) : List Nat := numF n n
theorem numF_any : ∀ (k j n : Nat), n ≤ k → n ≤ j → numF k n = numF j n
  | 0, 0, _, _, _ => rfl
  | 0, j + 1, n, h, _ => by
    obtain rfl : n = 0 := by omega
    rfl
  | k + 1, 0, n, _, h => by
    obtain rfl : n = 0 := by omega
    rfl
  | k + 1, j + 1, n, h1, h2 => by
    unfold numF
    by_cases hn : n < 128
    · rw [decide_eq_true hn]; rfl
    · rw [decide_eq_false hn, cond_false, cond_false, numF_any k j (n / 128) (by omega) (by omega)]
theorem numB_lo {n : Nat} (h : n < 128) : numB n = [n] := by
  unfold numB
  cases n with
  | zero => rfl
  | succ n => unfold numF; rw [decide_eq_true h]; rfl
theorem numB_hi {n : Nat} (h : ¬ n < 128) : numB n = (n % 128 + 128) :: numB (n / 128) := by
  unfold numB
  cases n with
  | zero => omega
  | succ n =>
    rw [show numF (n + 1) (n + 1) = bif decide (n + 1 < 128) then [n + 1] else ((n + 1) % 128 + 128) :: numF n ((n + 1) / 128) from rfl, decide_eq_false h, cond_false, numF_any n ((n + 1) / 128) ((n + 1) / 128) (by omega) (Nat.le_refl _)]
theorem numB_len : ∀ (k n : Nat), n < 128 ^ (k + 1) → (numB n).length ≤ k + 1
  | 0, n, h => by rw [numB_lo (by simpa using h)]; simp
  | k + 1, n, h => by
    by_cases hn : n < 128
    · rw [numB_lo hn]; simp
    · rw [numB_hi hn, List.length_cons]
      have := numB_len k (n / 128) (by
        rw [Nat.div_lt_iff_lt_mul (by omega), ← Nat.pow_succ]; exact h)
      omega
theorem numB_len9 {n : Nat} (h : n < 9223372036854775808) : (numB n).length ≤ 9 := numB_len 8 n (by omega)
/-- The bytes of a limb. -/
def limbB (x : Nat) : List Nat := (List.range 8).map fun k => x / 256 ^ k % 256
theorem limbB_len (x : Nat) : (limbB x).length = 8 := by unfold limbB; simp
def dyB (d : Dy) : List Nat := numB d.m.length ++ (d.m.flatMap limbB ++ ([bif d.neg then 1 else 0] ++ (bif decide (d.e < 0) then numB (-2 * d.e - 1).toNat else numB (2 * d.e).toNat)))
def ivB (a : Iv) : List Nat := dyB a.lo ++ dyB a.hi
def tbB (t : Tb) : List Nat := numB t.v.length ++ (t.at_.flatMap dyB ++ t.v.flatMap ivB)
def rowB {α : Type} (enc : α → List Nat) (l : List α) : List Nat := numB l.length ++ l.flatMap enc
/-- A record. -/
structure Rec where
  kind : Int
  epoch : Int
  code : Int
  t : Dy
  h : Dy
  boxes : List (List Iv)
  sigs : List (List Tb)
def recB (r : Rec) : List Nat := numB r.kind.toNat ++ (numB r.epoch.toNat ++ (numB r.code.toNat ++ (dyB r.t ++ (dyB r.h ++ (rowB (rowB ivB) r.boxes ++ rowB (rowB tbB) r.sigs)))))
/-- So many bytes at most. -/
def MX : Nat := 140737488355328
theorem flat_take {α : Type} {enc : α → List Nat} {l : List α} {i : Nat} {x : α} (h : l[i]? = some x) : (l.take (i + 1)).flatMap enc = (l.take i).flatMap enc ++ enc x := by
  obtain ⟨hi, he⟩ := List.getElem?_eq_some_iff.1 h
  rw [List.take_succ_eq_append_getElem hi, List.flatMap_append, he]
  simp
theorem flat_le {α : Type} {enc : α → List Nat} {l : List α} {i : Nat} : ((l.take i).flatMap enc).length ≤ (l.flatMap enc).length := by
  conv => rhs; rw [← List.take_append_drop i l]
  rw [List.flatMap_append, List.length_append]
  omega

/-! Operations on bytes. -/
theorem pr_u8 {n : Nat} : Sx.Prim.ev (.cvt .u8) [.int .i64 (n : Int)] = some (.int .u8 ((n % 256 : Nat) : Int)) := by
  exact congrArg (fun z => some (Value.int .u8 z)) (show (n : Int) % 256 = ((n % 256 : Nat) : Int) by omega)
theorem pr_u8u {n : Nat} : Sx.Prim.ev (.cvt .u8) [.int .u64 (n : Int)] = some (.int .u8 ((n % 256 : Nat) : Int)) := by
  exact congrArg (fun z => some (Value.int .u8 z)) (show (n : Int) % 256 = ((n % 256 : Nat) : Int) by omega)
theorem or128_all : ((List.range 256).all fun x => bits .or .u8 ((x : Nat) : Int) 128 == ((x % 128 + 128 : Nat) : Int)) = true := by kernel_rfl
theorem pr_or128 {n : Nat} : Sx.Prim.ev (.bin .or) [.int .u8 ((n % 256 : Nat) : Int), .int .u8 128] = some (.int .u8 ((n % 128 + 128 : Nat) : Int)) := by
  have h := List.all_eq_true.1 or128_all (n % 256) (List.mem_range.2 (Nat.mod_lt _ (by omega)))
  have h2 := eq_of_beq h
  show some (Value.int .u8 (bits .or .u8 ((n % 256 : Nat) : Int) 128)) = _
  rw [h2, show n % 256 % 128 = n % 128 by omega]
theorem pr_shr7 {n : Nat} : Sx.Prim.ev .shr [.int .i64 (n : Int), .int .u64 7] = some (.int .i64 ((n / 128 : Nat) : Int)) := by
  show some (Value.int .i64 (Int.fdiv (n : Int) 128)) = _
  rw [Int.fdiv_eq_ediv_of_nonneg _ (by omega)]
  exact congrArg (fun z => some (Value.int .i64 z)) (show (n : Int) / 128 = ((n / 128 : Nat) : Int) by omega)
theorem pr_shr8 {x k : Nat} (hk : k < 8) : Sx.Prim.ev .shr [.int .u64 (x : Int), .int .u64 ((8 * k : Nat) : Int)] = some (.int .u64 ((x / 256 ^ k : Nat) : Int)) := by
  show (if ((8 * k : Nat) : Int) < 0 then none else some (Value.int .u64 (Int.fdiv (x : Int) (2 ^ Nat.min ((8 * k : Nat) : Int).toNat 64)))) = _
  rw [if_neg (by omega), Int.toNat_natCast, Int.fdiv_eq_ediv_of_nonneg _ (by have : (0 : Int) < 2 ^ Nat.min (8 * k) 64 := Int.pow_pos (by omega); omega), show Nat.min (8 * k) 64 = 8 * k from Nat.min_eq_left (by omega), show (2 : Int) ^ (8 * k) = ((2 ^ (8 * k) : Nat) : Int) by rw [Int.natCast_pow]; rfl, ← Int.natCast_ediv, Nat.pow_mul]
namespace Sx
section
variable {w0 : Fr} {w w' : OW} {R : Value → World → Prop} {Pn : List PanicEntry → World → Prop} {Bk : Back} {ρ : List Value} {t t' : Tree} {wty : TypeId}
/-- A load of what nobody writes. -/
theorem sat_m {ty : TypeId} {x : At} {sh : Sh} (h : satB Try.prog w0 R Pn Bk (.load ty x sh t) ρ w) : satB Try.prog w0 R Pn Bk (.loadm ty x sh t) ρ w := by
  obtain ⟨l, ad, h1, h2, h3, h4⟩ := h
  exact fun w' hl => ⟨l, ad, h1, h2, h3 w' hl.toLf, sat_mono Try.prog h4 hl⟩
/-- A load of what is written. -/
theorem sat_bload {ty t1 : TypeId} {x : At} {g off : Nat} {vs : List Value} (u : Value) (hB : Box w.toWorld g vs t1) (hg : g ∈ w.bld) (hx : x.den ρ [] = .pointer (some ⟨g, off, none⟩)) (hu : vs[off]? = some u) (h2 : rowB Try.prog ty = some false)
    (h : satB Try.prog w0 R Pn Bk t (ρ ++ [u]) w) : satB Try.prog w0 R Pn Bk (.loadm ty x .one t) ρ w := fun w' hl => by
  have hb : Box w'.toWorld g vs t1 := by unfold Box; rw [hl.keepB g hg]; exact hB
  exact ⟨[u], _, rfl, hx, load_one h2 (by rw [hb.get]; exact hu), sat_mono Try.prog h hl⟩
/-- A byte is appended. -/
theorem sat_push {ty : TypeId} {c s p : At} {k : List At} {g j : Nat} {v : Value} {l : List Nat} (x : Nat) (fW : Wf w0) (S : WrS wty w0 w g v l) (hj : j = ρ.length) (hs : s.den ρ [] = v) (hc : c.den ρ [] = .int .u8 (x : Int)) (hk : ∀ y ∈ k, (y.den ρ []).oneCell' = true)
    (hlen : l.length + 1 ≤ MX) (hty : szOf Try.prog ty = some 1)
    (K : ∀ r v' ow, Lf w0 w ow → Same w g v ow v' → WrS wty w0 ow g v' (l ++ [x]) → satB Try.prog w0 R Pn Bk t (ρ ++ [r] ++ [v'] ++ [.pointer (some ⟨g, 0, none⟩)] ++ [.pointer (some ⟨g, 0 + 0, none⟩)]) ow)
    (hs' : ∀ r, s.den (ρ ++ [r]) [] = v) (hp' : ∀ r q, p.den (ρ ++ [r] ++ [q]) [] = .pointer (some ⟨g, 0, none⟩)) :
    satB Try.prog w0 R Pn Bk (.row 5 [c] 1 k (.appk .u8 5 1 1 s (.lf j) (.prim .nchk [p] (.prim (.fld 0) [.lf (j + 2)] (.fst ty (.lf (j + 3)) (.one (.lf (j + 1))) t))))) ρ w := by
  subst hj
  refine ⟨hk, fun w1 h1 => .inl ?_⟩
  have hcs : denL ρ [] [c] = [.int .u8 (x : Int)] := by simp [denL, hc]
  rw [hcs]
  have hB := Box.new w1.toWorld [.int .u8 (x : Int)] 5
  have hL1 : Le w0 w1 ⟨w1.alloc (.cells [.int .u8 (x : Int)].toArray 5), w1.own, w1.bld⟩ := Le.of h1.wf h1.b (by go_grown)
  have hNB : NB ⟨w1.alloc (.cells [.int .u8 (x : Int)].toArray 5), w1.own, w1.bld⟩ w1.heap.size := ⟨fun e => by have := (h1.wf.own _ e).2; omega, fun e => by have := (h1.wf.bld _ e).2.1; omega⟩
  have hR : Rows kB (NB ⟨w1.alloc (.cells [.int .u8 (x : Int)].toArray 5), w1.own, w1.bld⟩) (OW.mk (w1.alloc (.cells [.int .u8 (x : Int)].toArray 5)) w1.own w1.bld).toWorld (some ⟨w1.heap.size, 0, none⟩) 1 1 [x] := rows_one (k := kB) hB hNB rfl
  generalize w1.heap.size = N at *
  generalize (⟨w1.alloc (.cells [.int .u8 (x : Int)].toArray 5), w1.own, w1.bld⟩ : OW) = wa at *
  have hL := h1.trans hL1
  refine ⟨fW.u8, fun w2 h2 => ?_⟩
  have S2 := (S.le hL).le h2
  have hR2 := hR.mv (h2.toLf.mv fW.u64)
  rw [hs']
  have hden : (At.lf ρ.length).den (ρ ++ [Value.slice (some ⟨N, 0, none⟩) 1 1]) [] = .slice (some ⟨N, 0, none⟩) 1 1 := by simp [At.den]
  rw [hden]
  obtain ⟨A0, c0, rfl⟩ := S2.row.len
  refine S2.row.app (l' := [x]) hR2 (by unfold MX at hlen; simp only [List.length_cons, List.length_nil, maxLen]; omega) (by unfold MX at hlen; simp only [List.length_cons, List.length_nil]; omega) fun A c' w3 hA hG => ?_
  refine ⟨_, show Prim.ev .nchk (denL _ [] [p]) = some (.pointer (some ⟨g, 0, none⟩)) by simp only [denL, List.map_cons, List.map_nil, hp']; rfl, ?_⟩
  refine ⟨.pointer (some ⟨g, 0 + 0, none⟩), by simp [denL, At.den, Prim.ev], ?_⟩
  refine ⟨⟨g, 0 + 0, none⟩, by simp [At.den], fun w4 h4 => ?_⟩
  have hg3 : w3.heap[g]? = w2.heap[g]? := hA.keepB g S2.bg S2.ne
  have hbl3 : g ∈ w3.bld := hA.bld g S2.bg
  have hB4 : Box w4.toWorld g [.slice A0 l.length c0] wty := by
    unfold Box
    rw [h4.keepB g hbl3, hg3]
    exact S2.box
  have hst := store_ok (P := Try.prog) (off := 0) (us := [.slice A (l ++ [x]).length c']) (v := .slice A (l ++ [x]).length c') hty hB4 (by rfl) rfl (by simp) (by simp [Value.oneCell'])
  have hE := Eff.setRow h4.wf h4.b hB4 (by simp only [List.mem_singleton, forall_eq]; exact (okS _ _ _).n w0) (h4.bld g hbl3) [.slice A (l ++ [x]).length c'].toArray
  refine ⟨⟨w4.setRow g [.slice A (l ++ [x]).length c'].toArray, w4.own, w4.bld⟩, ?_, hE, ?_⟩
  · have hd2 : ((Tm.one (.lf (ρ.length + 1))).den (ρ ++ [Value.slice (some ⟨N, 0, none⟩) 1 1] ++ [.slice A (l ++ [x]).length c'] ++ [.pointer (some ⟨g, 0, none⟩)] ++ [.pointer (some ⟨g, 0 + 0, none⟩)]) []) = .slice A (l ++ [x]).length c' := by simp [Tm.den, At.den]
    rw [hd2]
    simpa using hst
  · have hne : (Value.slice A (l ++ [x]).length c').ownBlock ≠ some g := by
      rcases hA.blk with e | e
      · rw [e]; exact S2.ne
      · rw [e]
        intro e2
        injection e2 with e2
        have := (h2.wf.bld g S2.bg).2.1
        omega
    refine K _ _ _ ((hL.toLf.trans (h2.toLf.trans hA.toLf)).trans (h4.toLf.trans hE.toLf)) (fun q hq n1 n2 => ?_) ⟨?_, h4.bld g hbl3, ?_, hne⟩
    · have q2 : q ∈ w2.bld := h2.bld q (hL.bld q hq)
      have e0 : w2.heap[q]? = w.heap[q]? := (h2.keepB q (hL.bld q hq)).trans (hL.keepB q hq)
      have e1 : w3.heap[q]? = w2.heap[q]? := hA.keepB q q2 n2
      have e2 : w4.heap[q]? = w3.heap[q]? := h4.keepB q (hA.bld q q2)
      refine ⟨(setRow_other w4.toWorld g q _ n1).trans (e2.trans (e1.trans e0)), h4.bld q (hA.bld q q2), fun e => ?_⟩
      rcases hA.blk with e3 | e3
      · exact n2 (e3 ▸ e)
      · rw [e3] at e
        injection e with e
        have := (h2.wf.bld q q2).2.1
        omega
    · exact setRow_heap w4.toWorld g _ _ wty (0, 0) hB4
    · refine (hG.le h4).re fW fW fun q hq => ⟨setRow_other w4.toWorld g q _ (fun e => hne (e ▸ hq)), ?_⟩
      exact ((hG.le h4).blk hq).1
/-- A limb is loaded. -/
theorem sat_limb {ty : TypeId} {s ix : At} {kk : IntKind} {j n c i : Nat} {A : Option Addr} {xs : List Nat} (hj : j = ρ.length) (hk : w0.nk .u64 = false) (hR : RdN .u64 w.toWorld A n c xs) (hs : s.den ρ [] = .slice A n c) (hi : ix.den ρ [] = .int kk (i : Int)) (hlt : i < n) (h2 : rowB Try.prog ty = some false)
    (h : ∀ g o, satB Try.prog w0 R Pn Bk t (ρ ++ [.pointer (some ⟨g, o, none⟩)] ++ [.int .u64 ((nth xs i : Nat) : Int)]) w) : satB Try.prog w0 R Pn Bk (.prim (.idx 1) [s, ix] (.loadm ty (.lf j) .one t)) ρ w := by
  subst hj
  obtain ⟨g, o, hA, _, _⟩ := hR.at_ (by omega)
  refine ⟨.pointer (some ⟨g, o + i * 1, none⟩), ?_, fun w' hl => ?_⟩
  · simp only [denL, List.map_cons, List.map_nil, hs, hi, hA, Prim.ev]
    rw [if_pos ⟨by omega, by omega⟩]
    simp
  · obtain ⟨g', o', hA', _, hc⟩ := (hl.rdk hk hR).at_ (by omega)
    rw [hA] at hA'
    injection hA' with hA'
    injection hA' with e1 e2
    subst e1 e2
    exact ⟨[.int .u64 ((nth xs i : Nat) : Int)], ⟨g, o + i * 1, none⟩, rfl, by simp [At.den], load_one h2 (by rw [Nat.mul_one]; exact hc i hlt), sat_mono Try.prog (h g (o + i * 1)) hl⟩
/-- What is neither the call's own nor built is not the writer's. -/
theorem WrS.out {g : Nat} {v : Value} {l : List Nat} (h : WrS wty w0 w g v l) : ∀ q, NB w q → q ∉ wb g v := fun q hq hm => by
  rcases mem_wb.1 hm with rfl | hm
  · exact hq.2 h.bg
  · exact hq.2 (h.row.blk hm).1
theorem Rows.out {α : Type} {k : Kind α} {A : Option Addr} {n c : Nat} {x : List α} {g : Nat} {v : Value} {l : List Nat} (h : Rows k (NB w) w.toWorld A n c x) (S : WrS wty w0 w g v l) : Rows k (fun q => q ∉ wb g v) w.toWorld A n c x := h.mv (Mv.weak fun q _ hq => S.out q hq)
theorem Rows.startW {α : Type} {k : Kind α} {w : World} {A : Option Addr} {n c : Nat} {x : List α} {g : Nat} {v : Value} (h : Rows k (fun q => q ∉ wb g v) w A n c x) : Rows k (NB ⟨w, [], wb g v⟩) (OW.mk w [] (wb g v)).toWorld A n c x := h.mv (Mv.weak fun q _ hq => ⟨by simp, hq⟩)
/-- A writer's state at the end. -/
theorem WrS.post {w : World} {g : Nat} {v v' : Value} {l' : List Nat} {ow : OW} (h : WrS wty (wfr w (wb g v)) ow g v' l') (hl : Le (wfr w (wb g v)) ow w') : WrPost wty w w'.toWorld g v l' v' := by
  have h2 := h.le hl
  refine ⟨h2.w (Wf.wfr _ _), hl.b, fun q hb => ?_⟩
  rcases (hl.wf.bld q (h2.row.blk hb).1).1 with hq | hq
  · rcases mem_wb.1 hq with rfl | hq
    · exact absurd hb h2.ne
    · exact .inl hq
  · exact .inr hq
end
/-- The call by its tree, in a frame. -/
theorem runE {w0 : Fr} (hd : w0.df = []) (hfr : ∀ g ∈ w0.fr, g < w0.heap.size) (fx : List (Nat × FuncId)) (hv es : List Nat) {f : FuncId} {ls : List Value} {shs : List (Bool × Nat)} {t : Tree} {R : Value → World → Prop} {Pn : List PanicEntry → World → Prop} (ht : treeEs Try.prog f fx hv es shs = some t) (hl : ls.length = (shs.map (·.2)).sum) (h1 : (shs.all fun c => c.1 || c.2 == 1) = true)
    (hfx : ∀ q ∈ fx, (tupV ls shs)[q.1]? = some (.func (.func q.2) #[] #[])) (hs : sat Try.prog w0 R Pn t ls ⟨w0.toWorld, [], w0.fr⟩) (hp0 : w0.pn = [] := by rfl) : Calls Try.prog f (tupV ls shs).toArray w0.toWorld fun e w' => BelowF w0 w' ∧ ((∃ v, e = .returned v ∧ R v w') ∨ ∃ c, e = .panicked c ∧ Pn c w') := by
  refine (sx_callsE hd hp0 hfr mixed ht hl (fun c hc hf => ?_) hfx hs).mono fun e w' h => ?_
  · have := List.all_eq_true.1 h1 c hc
    simpa [hf] using this
  · cases e with
    | returned v => exact ⟨h.2, .inl ⟨v, rfl, h.1⟩⟩
    | panicked c => exact ⟨h.2, .inr ⟨c, rfl, h.1⟩⟩
    | outgrown => exact h.elim
/-- A function that writes. -/
theorem runW {wty : TypeId} {w : World} {g : Nat} {v : Value} {l l' : List Nat} (hW : WrW wty w g v l) (hv es : List Nat) {f : FuncId} {ls : List Value} {shs : List (Bool × Nat)} {t : Tree} (ht : treeEs Try.prog f [] hv es shs = some t) (hl : ls.length = (shs.map (·.2)).sum) (h1 : (shs.all fun c => c.1 || c.2 == 1) = true)
    (hs : Wf (wfr w (wb g v)) → WrS wty (wfr w (wb g v)) ⟨w, [], wb g v⟩ g v l → sat Try.prog (wfr w (wb g v)) (fun x w' => x = .tuple #[] ∧ ∃ v', WrPost wty w w' g v l' v') (fun _ _ => False) t ls ⟨w, [], wb g v⟩) : Calls Try.prog f (tupV ls shs).toArray w fun e w' => e = .returned (.tuple #[]) ∧ ∃ v', WrPost wty w w' g v l' v' :=
  (runE (w0 := wfr w (wb g v)) rfl hW.lt [] hv es ht hl h1 (fun q h => by cases h) (hs (Wf.wfr _ _) hW)).mono fun e w' ⟨_, h⟩ => by
    rcases h with ⟨x, rfl, rfl, hv⟩ | ⟨c, _, hf⟩
    · exact ⟨rfl, hv⟩
    · exact hf.elim
end Sx
end Go.Proofs.Ytpkfjfpknbhekaa
namespace Go.Proofs.Ytpkfjfpknbhekaa
open Go.RowKit Pl
namespace Sx
/-- Rows as elements. -/
def kL {α : Type} (k : Kind α) : Kind (List α) where
  sz := 1
  El ok w cs l := ∃ A c, cs = [.slice A l.length c] ∧ Rows k ok w A l.length c l
  len := by rintro _ _ _ _ ⟨_, _, rfl, _⟩; rfl
  mv := by
    rintro _ _ _ _ _ _ m ⟨A, c, rfl, h⟩
    exact ⟨A, c, rfl, h.mv m⟩
  okc := by
    rintro _ _ _ _ ⟨_, _, rfl, _⟩ u hu
    obtain rfl := List.mem_singleton.1 hu
    exact okS _ _ _
/-- Records as elements. -/
def kRec : Kind Rec where
  sz := 11
  El ok w cs r := ∃ A n a B m b X x Y y, cs = [.int .i64 r.kind, .int .i64 r.epoch, .int .i64 r.code, .bool r.t.neg, .slice A n a, .int .i64 r.t.e, .bool r.h.neg, .slice B m b, .int .i64 r.h.e, .slice X r.boxes.length x, .slice Y r.sigs.length y] ∧
    RdD w (.agg #[.bool r.t.neg, .slice A n a, .int .i64 r.t.e]) r.t ∧ RdD w (.agg #[.bool r.h.neg, .slice B m b, .int .i64 r.h.e]) r.h ∧ Rows (kL kI) ok w X r.boxes.length x r.boxes ∧ Rows (kL kT) ok w Y r.sigs.length y r.sigs
  len := by rintro _ _ _ _ ⟨_, _, _, _, _, _, _, _, _, _, rfl, _⟩; rfl
  mv := by
    rintro _ _ _ _ _ _ mm ⟨A, n, a, B, m, b, X, x, Y, y, rfl, ⟨A', n', c', h1, h2, h3⟩, ⟨B', m', d', i1, i2, i3⟩, h4, h5⟩
    exact ⟨A, n, a, B, m, b, X, x, Y, y, rfl, ⟨A', n', c', h1, mm.rd (by decide) h2, h3⟩, ⟨B', m', d', i1, mm.rd (by decide) i2, i3⟩, h4.mv mm, h5.mv mm⟩
  okc := by
    rintro _ _ _ _ ⟨_, _, _, _, _, _, _, _, _, _, rfl, _⟩ u hu
    simp only [List.mem_cons, List.not_mem_nil, or_false] at hu
    rcases hu with rfl | rfl | rfl | rfl | rfl | rfl | rfl | rfl | rfl | rfl | rfl <;> first | exact okS _ _ _ | exact okI _ | exact okB _
/-- A block that is neither the call's own nor built. -/
def NBl (w : OW) (q : Nat) : Prop := q < w.heap.size ∧ NB w q
theorem Lf.nbl {w0 : Fr} {w w' : OW} (h : Lf w0 w w') {q : Nat} (hq : NBl w q) : NBl w' q :=
  ⟨Nat.lt_of_lt_of_le hq.1 h.sz, fun e => (h.own' q e).elim hq.2.1 (fun e => absurd hq.1 (by omega)), fun e => (h.bld' q e).elim hq.2.2 (fun e => absurd hq.1 (by omega))⟩
/-- A variable of the caller's. -/
structure PV (w : OW) (p : Nat) (u : Value) (ty : TypeId) : Prop where
  nb : NBl w p
  box : Box w.toWorld p [u] ty
theorem Lf.pv {w0 : Fr} {w w' : OW} (h : Lf w0 w w') {p : Nat} {u : Value} {ty : TypeId} (q : PV w p u ty) : PV w' p u ty :=
  ⟨h.nbl q.nb, by unfold Box; rw [h.keep p q.nb.1 q.nb.2.1 q.nb.2.2]; exact q.box⟩
theorem Le.pv {w0 : Fr} {w w' : OW} (h : Le w0 w w') {p : Nat} {u : Value} {ty : TypeId} (q : PV w p u ty) : PV w' p u ty := h.toLf.pv q
/-- A variable beside the writer's. -/
structure BxS (w : OW) (g : Nat) (v : Value) (p : Nat) (vs : List Value) (ty : TypeId) : Prop where
  box : Box w.toWorld p vs ty
  bp : p ∈ w.bld
  ne : p ≠ g
  nb : v.ownBlock ≠ some p
theorem keepBox {w ow : OW} {g p : Nat} {v v' : Value} {vs : List Value} {ty : TypeId} (h : BxS w g v p vs ty) (hs : Same w g v ow v') : BxS ow g v' p vs ty := by
  obtain ⟨h1, h2, h3⟩ := hs p h.bp h.ne h.nb
  exact ⟨by unfold Box; rw [h1]; exact h.box, h2, h.ne, h3⟩
section
variable {w0 : Fr} {w w' : OW} {R : Value → World → Prop} {Pn : List PanicEntry → World → Prop} {Bk : Back} {ρ : List Value} {t t' : Tree} {wty : TypeId}
/-- A variable of the caller's is loaded. -/
theorem sat_pv {ty t1 : TypeId} {x : At} {p : Nat} {u : Value} (hp : PV w p u t1) (hx : x.den ρ [] = .pointer (some ⟨p, 0, none⟩)) (h2 : rowB Try.prog ty = some false)
    (h : satB Try.prog w0 R Pn Bk t (ρ ++ [u]) w) : satB Try.prog w0 R Pn Bk (.loadm ty x .one t) ρ w :=
  sat_m (sat_box u hp.box hx rfl h2 (fun _ hl => hl.keep p hp.nb.1 hp.nb.2.1 hp.nb.2.2) h)
theorem PV.out {g p : Nat} {v u : Value} {l : List Nat} {ty : TypeId} (q : PV w p u ty) (S : WrS wty w0 w g v l) : Box w.toWorld p [u] ty ∧ p ∉ wb g v ∧ p < w.heap.size := ⟨q.box, S.out p q.nb.2, q.nb.1⟩
/-- A new variable that functions write. -/
theorem sat_newf {ty : TypeId} {cs : List At} (vs : List Value) (hcs : denL ρ [] cs = vs)
    (h : ∀ w1 : OW, Le w0 w w1 → Le w0 w ⟨w1.alloc (.cells vs.toArray ty), w1.own, w1.heap.size :: w1.bld⟩ → Box (w1.alloc (.cells vs.toArray ty)) w1.heap.size vs ty → (∀ q ∈ w1.bld, q ≠ w1.heap.size) → w0.heap.size ≤ w1.heap.size → satB Try.prog w0 R Pn Bk t (ρ ++ [.pointer (some ⟨w1.heap.size, 0, none⟩)]) ⟨w1.alloc (.cells vs.toArray ty), w1.own, w1.heap.size :: w1.bld⟩) : satB Try.prog w0 R Pn Bk (.newf ty cs t) ρ w := by
  intro w1 h1
  rw [hcs]
  exact h w1 h1 (h1.trans (Le.newB h1.wf h1.b _)) (Box.new w1.toWorld vs ty) (fun q hq e => by have := (h1.wf.bld q hq).2.1; omega) h1.b.size
/-- A cell of a variable that functions write is stored. -/
theorem sat_fst1 {ty t1 : TypeId} {x : At} {y : At} {p : Nat} {u : Value} (v : Value) (hB : Box w.toWorld p [u] t1) (hp : p ∈ w.bld) (hx : x.den ρ [] = .pointer (some ⟨p, 0, none⟩)) (hy : y.den ρ [] = v) (hu : LeafN w0 u) (h1c : v.oneCell' = true) (hc : v.cells = #[v]) (hty : szOf Try.prog ty = some 1)
    (h : ∀ ow, Lf w0 w ow → Box ow.toWorld p [v] t1 → (∀ q ∈ w.bld, q ≠ p → ow.heap[q]? = w.heap[q]?) → (∀ q ∈ w.bld, q ∈ ow.bld) → satB Try.prog w0 R Pn Bk t ρ ow) : satB Try.prog w0 R Pn Bk (.fst ty x (.one y) t) ρ w := by
  refine ⟨⟨p, 0, none⟩, hx, fun w1 h1 => ?_⟩
  have hB1 : Box w1.toWorld p [u] t1 := by unfold Box; rw [h1.keepB p hp]; exact hB
  have hst := store_ok (P := Try.prog) (off := 0) (us := [v]) (v := v) hty hB1 hc rfl (by simp) (by simpa using h1c)
  have hE := Eff.setRow h1.wf h1.b hB1 (by simp only [List.mem_singleton, forall_eq]; exact hu) (h1.bld p hp) [v].toArray
  refine ⟨⟨w1.setRow p [v].toArray, w1.own, w1.bld⟩, ?_, hE, h _ (h1.toLf.trans hE.toLf) (setRow_heap w1.toWorld p _ _ t1 (0, 0) hB1) (fun q hq hn => (setRow_other w1.toWorld p q _ hn).trans (h1.keepB q hq)) h1.bld⟩
  simp only [Tm.den, hy]
  simpa using hst
/-- A writer that nothing has been written to. -/
theorem WrS.new {g : Nat} (fW : Wf w0) (hB : Box w.toWorld g [.slice none 0 0] wty) (hg : g ∈ w.bld) : WrS wty w0 w g (.slice none 0 0) [] :=
  ⟨hB, hg, Gr.nil (k := kB) (by decide) _ _ _ fW.u8 fW.u64, fun e => by cases e⟩
/-- Another variable is written. -/
theorem WrS.other {g : Nat} {v : Value} {l : List Nat} (h : WrS wty w0 w g v l) (fW : Wf w0) (hs : ∀ q ∈ wb g v, w'.heap[q]? = w.heap[q]? ∧ q ∈ w'.bld) : WrS wty w0 w' g v l :=
  ⟨by unfold Box; rw [(hs g (mem_wb.2 (.inl rfl))).1]; exact h.box, (hs g (mem_wb.2 (.inl rfl))).2, h.row.re fW fW fun q hq => hs q (mem_wb.2 (.inr hq)), h.ne⟩
end
end Sx
end Go.Proofs.Ytpkfjfpknbhekaa
