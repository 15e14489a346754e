/- Bytes of a row that a call builds: read, put anew, made a string. The walk of LedgerBack. Printed by wip/mk_WrDD.py. sluicewayref21.number, dyad, ival, Put: rows of bytes that a call builds. Printed by wip/mk_WrII.py. sluicewayref21.Put. Printed by wip/mk_WrJJ.py. The document's own parser of a record, plainly: it takes just the bytes that Put makes. The document's reader R: its state, byte, number. Printed by wip/mk_WrFF.py. The document's reader R: dyad, ival, tube. Printed by wip/mk_WrGG.py. sluicewayref21.Get. Printed by wip/mk_WrHH.py. The walk of LedgerAsks. Printed by wip/mk_WrKK.py. -/
import Derived.Test.YtpkfjfpknbhekaaWrXx
import Derived.Laws.BytesArg
namespace Go.Proofs.Ytpkfjfpknbhekaa
open Go.RowKit Pl
namespace Sx
section
variable {w0 : Fr} {w w' : OW} {R : Value → World → Prop} {Pn : List PanicEntry → World → Prop} {Bk : Back} {ρ : List Value} {t t' : Tree}
/-- A row of bytes is made a string. -/
def strB (l : List Nat) : ByteArray := strOfNums (l.map fun x : Nat => (x : Int))
theorem strB_nil : strB [] = ByteArray.empty := by kernel_rfl
theorem conv_rdn {src dst e : TypeId} (hs : Try.prog.underlying src = some (.slice e)) (he : Try.prog.underlying e = some (.int .u8)) (hd : Try.prog.underlying dst = some .string) {W : World} {A : Option Addr} {n c : Nat} {l : List Nat} (h : RdN .u8 W A n c l) : (convert src dst (.slice A n c)).run Try.prog W = .ok (.string (strB l)) W := by
  have hl := h.len
  rcases Nat.eq_zero_or_pos n with h0 | hn
  · subst h0
    obtain rfl : l = [] := List.eq_nil_of_length_eq_zero hl
    cases A with
    | none =>
      rw [run_convert_bytes_nil W src e hs he 0 c dst hd, strB_nil]
    | some ad =>
      rw [run_convert_bytes_string W src dst e _ 0 c hs he hd, run_bytesToString W ad 0 c [] (by simp [loadCells, loadCellsFrom]), strB_nil]
      rfl
  · obtain ⟨b, off, rfl, _, hc⟩ := h.at_ hn
    refine run_convert_bytes_arg W src e hs he b off n c (l.map fun x : Nat => (x : Int)) (by simpa using hl) (fun i hi => ?_) dst hd
    rw [hc i hi]
    unfold nth
    simp [List.getD_eq_getElem?_getD, show i < l.length by omega]
end
end Sx
end Go.Proofs.Ytpkfjfpknbhekaa
namespace Go.Proofs.Ytpkfjfpknbhekaa
open Go.RowKit Pl
open Sx (sat_call sat_chk sat_prim sat_ite sat_true sat_false sat_trueP sat_falseP sat_ret all_nil all_cons okB okS okI)
theorem recB_len9 {r : Rec} (h : mayR r = true) : (recB r).length ≤ 1000000000 := by
  have m := MayR.of h
  unfold recB
  simp only [List.length_append]
  have a1 := numB_len9 (n := r.kind.toNat) (by have := m.k3; omega)
  have a2 := numB_len9 (n := r.epoch.toNat) (by have := m.e1; omega)
  have a3 := numB_len9 (n := r.code.toNat) (by have := m.c1; omega)
  have a4 := dyB_len m.t
  have a5 := dyB_len m.h
  have a6 := rowB_len (enc := rowB ivB) (n := 16) (m := 9 + 64 * 1062) m.nb (by omega) fun l hl => rowB_len (m.bx l hl).1 (by omega) fun a ha => ivB_len (mayI_dys ((m.bx l hl).2 a ha))
  have a7 := rowB_len (enc := rowB tbB) (n := 16) (m := 9 + 64 * 500000) m.ns (by omega) fun l hl => rowB_len (m.sg l hl).1 (by omega) fun a ha => tbB_len ((m.sg l hl).2 a ha)
  omega
namespace Sx
theorem sat_appk {w0 : Fr} {w : OW} {R : Value → World → Prop} {Pn : List PanicEntry → World → Prop} {Bk : Back} {ρ : List Value} {t : Tree} {ik : IntKind} {e : TypeId} {sz by' : Nat} {s x : At} (vs vx : Value) (hs : s.den ρ [] = vs) (hx : x.den ρ [] = vx) (hk : w0.nk ik = true) (h : ∀ w1 : OW, Le w0 w w1 → AppOk w0 e sz by' vs vx w1 fun s' w2 => satB Try.prog w0 R Pn Bk t (ρ ++ [s']) w2) : satB Try.prog w0 R Pn Bk (.appk ik e sz by' s x t) ρ w := by
  refine ⟨hk, fun w1 h1 => ?_⟩
  rw [hs, hx]
  exact h w1 h1
end Sx
end Go.Proofs.Ytpkfjfpknbhekaa
namespace Go.Proofs.Ytpkfjfpknbhekaa
open Go.RowKit Pl
open Sx (sat_call sat_chk sat_prim sat_ite sat_true sat_false sat_trueP sat_falseP sat_ret sat_row sat_callP sat_loop sat_back sat_idx sat_el sat_elf sat_elc sat_load sat_rowN sat_app sat_callB sat_alt rows_one rows_two all_nil all_cons okB okS okI)

namespace Sx
/-- Bytes that a call has made; they may be built upon. -/
def FrB (w w' : World) (v : Value) (l : List Nat) : Prop := Gr kB (wfr w []) 5 ⟨w', [], v.ownBlock.toList⟩ v l ∧ ∀ g, v.ownBlock = some g → w.heap.size ≤ g
theorem Gr.frb {w : World} {ow : OW} {v : Value} {l : List Nat} (h : Gr kB (wfr w []) 5 ow v l) (hwf : WF (wfr w []) ow) : FrB w ow.toWorld v l := by
  refine ⟨h.re (Wf.wfr _ _) (Wf.wfr _ _) fun g hg => ⟨rfl, Option.mem_toList.2 hg⟩, fun g hg => ?_⟩
  rcases (hwf.bld g (h.blk hg).1).1 with e | e
  · cases e
  · exact e
theorem FrB.rows {w w' : World} {A : Option Addr} {n c : Nat} {l : List Nat} (h : FrB w w' (.slice A n c) l) : Rows kB (fun g => w.heap.size ≤ g) w' A n c l :=
  h.1.bytes ⟨fun g hg => (by cases hg), fun g hg => ⟨.inr (h.2 g (Option.mem_toList.1 hg)), (h.1.blk (Option.mem_toList.1 hg)).2, fun e => (by cases e)⟩⟩
section
variable {w0 : Fr} {w w' : OW} {R : Value → World → Prop} {Pn : List PanicEntry → World → Prop} {Bk : Back} {ρ : List Value} {t t' : Tree}
/-- A call that makes bytes, which are then built upon. -/
theorem sat_fcall {f : FuncId} {args : List Tm} (l : List Nat) (fW : Wf w0) (vs : Array Value) (has : (args.map (Tm.den ρ [])).toArray = vs)
    (h : ∀ w1 : OW, Le w0 w w1 → Calls Try.prog f vs w1.toWorld fun e w2 => (∃ v, e = .returned v ∧ FrB w1.toWorld w2 v l) ∧ Below w1.heap.size w1.toWorld w2)
    (k : ∀ A c ow, Le w0 w ow → Gr kB w0 5 ow (.slice A l.length c) l → satB Try.prog w0 R Pn Bk t (ρ ++ [.slice A l.length c]) ow) : satB Try.prog w0 R Pn Bk (.call f args .one t) ρ w :=
  sat_callB vs has fun w1 h1 => (h w1 h1).mono fun e w2 ⟨⟨v, he, hf⟩, hb⟩ => by
    subst he
    refine ⟨hb, [v], v.ownBlock.toList, v, rfl, rfl, rfl, fun g hg => ⟨hf.2 g (Option.mem_toList.1 hg), (hf.1.blk (Option.mem_toList.1 hg)).2⟩, fun g1 => ?_⟩
    have G := hf.1.re (w' := ⟨w2, w1.own, v.ownBlock.toList ++ w1.bld⟩) (Wf.wfr _ _) fW fun g hg => ⟨rfl, List.mem_append_left _ (Option.mem_toList.2 hg)⟩
    obtain ⟨A, c, rfl⟩ := G.len
    exact k A c _ g1 G
/-- A call that makes bytes, which are then read. -/
theorem sat_fread {f : FuncId} {args : List Tm} (l : List Nat) (vs : Array Value) (has : (args.map (Tm.den ρ [])).toArray = vs)
    (h : ∀ w1 : OW, Le w0 w w1 → Calls Try.prog f vs w1.toWorld fun e w2 => (∃ v, e = .returned v ∧ FrB w1.toWorld w2 v l) ∧ Below w1.heap.size w1.toWorld w2)
    (k : ∀ A c ow, Le w0 w ow → Rows kB (NB ow) ow.toWorld A l.length c l → satB Try.prog w0 R Pn Bk t (ρ ++ [.slice A l.length c]) ow) : satB Try.prog w0 R Pn Bk (.call f args .one t) ρ w :=
  sat_call vs has fun w1 h1 => (h w1 h1).mono fun e w2 ⟨⟨v, he, hf⟩, hb⟩ => by
    subst he
    refine ⟨hb, [v], v, rfl, rfl, rfl, fun g1 => ?_⟩
    obtain ⟨A, c, rfl⟩ := hf.1.len
    exact k A c _ g1 (hf.rows.mv (Mv.fresh h1.wf))
/-- Bytes that are read are appended to a row that is built. -/
theorem sat_fapp {s x : At} {A B : Option Addr} {c d : Nat} {l l' : List Nat} (fW : Wf w0) (G : Gr kB w0 5 w (.slice A l.length c) l) (F : Rows kB (NB w) w.toWorld B l'.length d l') (hs : s.den ρ [] = .slice A l.length c) (hx : x.den ρ [] = .slice B l'.length d) (hl : (l ++ l').length ≤ MX)
    (k : ∀ A c ow, Lf w0 w ow → Gr kB w0 5 ow (.slice A (l ++ l').length c) (l ++ l') → satB Try.prog w0 R Pn Bk t (ρ ++ [.slice A (l ++ l').length c]) ow) : satB Try.prog w0 R Pn Bk (.appk .u8 5 1 1 s x t) ρ w := by
  refine sat_appk _ _ hs hx fW.u8 fun w6 h6 => ?_
  rw [List.length_append] at hl
  refine (G.le h6).appN (F.mv (h6.mv fW.u64)) (by unfold MX at hl; unfold maxLen; omega) (by unfold MX at hl; omega) fun A c w7 a7 G7 => ?_
  exact k A c w7 (h6.toLf.trans a7.toLf) G7
end
end Sx
theorem pr_andbig {m : Nat} (h : m < 9223372036854775808) : Sx.Prim.ev (.bin .and) [.int .i64 ((m : Nat) : Int), .int .i64 127] = some (.int .i64 ((m % 128 : Nat) : Int)) := by
  show some (Value.int .i64 (IntKind.i64.wrap ((BitVec.ofInt 64 ((m : Nat) : Int) &&& BitVec.ofInt 64 127).toNat : Int))) = _
  have e1 : (BitVec.ofInt 64 ((m : Nat) : Int)).toNat = m := by rw [BitVec.toNat_ofInt]; omega
  have e2 : (BitVec.ofInt 64 (127 : Int)).toNat = 127 := by decide
  rw [BitVec.toNat_and, e1, e2, show (127 : Nat) = 2 ^ 7 - 1 from rfl, Nat.and_two_pow_sub_one_eq_mod, IntWalk.i64_in _ (by omega)]
theorem ori_all : ((List.range 128).all fun x => bits .or .i64 ((x : Nat) : Int) 128 == ((x + 128 : Nat) : Int)) = true := by kernel_rfl
theorem pr_ori {m : Nat} : Sx.Prim.ev (.bin .or) [.int .i64 ((m % 128 : Nat) : Int), .int .i64 128] = some (.int .i64 ((m % 128 + 128 : Nat) : Int)) := by
  have h := List.all_eq_true.1 ori_all (m % 128) (List.mem_range.2 (Nat.mod_lt _ (by omega)))
  have h2 := eq_of_beq h
  show some (Value.int .i64 (bits .or .i64 ((m % 128 : Nat) : Int) 128)) = _
  rw [h2]

def tr_fnum : Sx.Tree := .loop 0 [.nil, .lf 0] (.prim (.bin .geq) [.lf 2, .num .i64 128] (.ite (.lf 3) (.prim (.bin .and) [.lf 2, .num .i64 127] (.prim (.bin .or) [.lf 4, .num .i64 128] (.prim (.cvt .u8) [.lf 5] (.row 5 [.lf 6] 1 [.lf 6] (.appk .u8 5 1 1 (.lf 1) (.lf 7) (.prim .shr [.lf 2, .num .u64 7] (.back 0 [.lf 8, .lf 9]))))))) (.prim (.cvt .u8) [.lf 2] (.row 5 [.lf 4] 1 [.lf 4] (.appk .u8 5 1 1 (.lf 1) (.lf 5) (.ret (.one (.lf 6))))))))
theorem tr_fnum_eq : Sx.treeEs Try.prog 41 [] [] [999999] [(false, 1)] = some tr_fnum := by kernel_rfl

theorem fnum_any (n : Nat) (hn : n < 9223372036854775808) (w : World) : Calls Try.prog 41 #[.int .i64 ((n : Nat) : Int)] w fun e w' => (∃ v, e = .returned v ∧ Sx.FrB w w' v (numB n)) ∧ Below w.heap.size w w' := by
  refine (Sx.runE (w0 := (Sx.wfr w [])) rfl (fun q h => by cases h) [] [] [999999] (ls := [.int .i64 ((n : Nat) : Int)]) (shs := [(false, 1)]) (R := fun v w' => Sx.FrB w w' v (numB n)) (Pn := fun _ _ => False) tr_fnum_eq rfl (by decide) (fun q h => by cases h) ?_).mono (by
    rintro e w' ⟨hb, h⟩
    rcases h with ⟨v, rfl, h2⟩ | ⟨_, _, hf⟩
    · exact ⟨⟨v, rfl, h2⟩, hb.plain rfl⟩
    · exact hf.elim)
  unfold tr_fnum
  have fW := Sx.Wf.wfr w []
  refine sat_loop (fun Kn vs W => ∃ (m : Nat) (p : List Nat) (A : Option Addr) (c : Nat), vs = [.slice A p.length c, .int .i64 ((m : Nat) : Int)] ∧ m = Kn ∧ m ≤ n ∧ numB n = p ++ numB m ∧ Sx.Gr Sx.kB (Sx.wfr w []) 5 W (.slice A p.length c) p) [.slice none 0 0, .int .i64 ((n : Nat) : Int)] (by kernel_rfl) (fun w1 h1 => ⟨_, n, [], none, 0, rfl, rfl, Nat.le_refl _, rfl, Sx.Gr.nil (k := Sx.kB) (by decide) _ _ _ fW.u8 fW.u64⟩) ?_
  rintro Kn vs w1 h1 ⟨m, p, A, c, rfl, rfl, hmn, hm, G1⟩
  clear h1
  have h9 := numB_len9 hn
  refine sat_prim (v := .bool (decide ((128 : Int) ≤ ((m : Nat) : Int)))) (by kernel_rfl) ?_
  by_cases h128 : m < 128
  · refine sat_falseP (b := decide ((128 : Int) ≤ ((m : Nat) : Int))) (by kernel_rfl) (decide_eq_false (by omega)) ?_
    rw [hm, numB_lo h128, List.length_append] at h9
    refine sat_prim (v := .int .u8 ((m : Nat) : Int)) (Eq.trans (Eq.trans (by kernel_rfl) (pr_u8 (n := m))) (by rw [Nat.mod_eq_of_lt (by omega)])) ?_
    refine Sx.sat_pushB (j := 5) m fW G1 (by kernel_rfl) (fun _ => by kernel_rfl) (by kernel_rfl) (fun y hy => by obtain rfl := List.mem_singleton.1 hy; kernel_rfl) (by unfold MX; omega) fun r A2 c2 w2 h2 G2 => ?_
    rw [numB_lo h128] at hm
    exact sat_ret (.slice A2 (p ++ [m]).length c2) (by kernel_rfl) fun w9 h9 => by rw [hm]; exact (G2.le h9).frb h9.wf
  · refine sat_trueP (b := decide ((128 : Int) ≤ ((m : Nat) : Int))) (by kernel_rfl) (decide_eq_true (by omega)) ?_
    rw [hm, numB_hi h128, List.length_append, List.length_cons] at h9
    refine sat_prim (v := .int .i64 ((m % 128 : Nat) : Int)) (Eq.trans (by kernel_rfl) (pr_andbig (m := m) (by omega))) ?_
    refine sat_prim (v := .int .i64 ((m % 128 + 128 : Nat) : Int)) (Eq.trans (by kernel_rfl) (pr_ori (m := m))) ?_
    refine sat_prim (v := .int .u8 ((m % 128 + 128 : Nat) : Int)) (Eq.trans (Eq.trans (by kernel_rfl) (pr_u8 (n := m % 128 + 128))) (by rw [Nat.mod_eq_of_lt (by omega)])) ?_
    refine Sx.sat_pushB (j := 7) (m % 128 + 128) fW G1 (by kernel_rfl) (fun _ => by kernel_rfl) (by kernel_rfl) (fun y hy => by obtain rfl := List.mem_singleton.1 hy; kernel_rfl) (by unfold MX; omega) fun r A2 c2 w2 h2 G2 => ?_
    refine sat_prim (v := .int .i64 ((m / 128 : Nat) : Int)) (Eq.trans (by kernel_rfl) (pr_shr7 (n := m))) ?_
    exact sat_back [.slice A2 (p ++ [m % 128 + 128]).length c2, .int .i64 ((m / 128 : Nat) : Int)] (by kernel_rfl) fun w9 h9 => ⟨_, by omega, m / 128, p ++ [m % 128 + 128], A2, c2, rfl, rfl, by omega, by rw [hm, numB_hi h128, List.append_assoc]; rfl, G2.le h9⟩

def tr_fdy : Sx.Tree := .chk [.lf 0, .lf 1, .lf 2] (.prim .len [.lf 1] (.call 41 [.one (.lf 3)] .one (.loop 0 [.num .i64 0, .lf 4] (.prim .len [.lf 1] (.prim (.bin .lss) [.lf 5, .lf 7] (.ite (.lf 8) (.loop 1 [.num .i64 0, .lf 6] (.prim (.bin .lss) [.lf 9, .num .i64 8] (.ite (.lf 11) (.prim (.idx 1) [.lf 1, .lf 5] (.loadm 51 (.lf 12) .one (.prim (.bin .mul) [.num .i64 8, .lf 9] (.prim (.cvt .u64) [.lf 14] (.prim .shr [.lf 13, .lf 15] (.prim (.cvt .u8) [.lf 16] (.row 5 [.lf 17] 1 [.lf 17] (.appk .u8 5 1 1 (.lf 10) (.lf 18) (.prim (.bin .add) [.lf 9, .num .i64 1] (.back 1 [.lf 20, .lf 19])))))))))) (.prim (.bin .add) [.lf 5, .num .i64 1] (.back 0 [.lf 12, .lf 10]))))) (.ite (.lf 0) (.row 5 [.num .u8 1] 1 [] (.appk .u8 5 1 1 (.lf 6) (.lf 9) (.prim (.bin .lss) [.lf 2, .num .i64 0] (.ite (.lf 11) (.prim (.bin .mul) [.num .i64 ((-2)), .lf 2] (.prim (.bin .sub) [.lf 12, .num .i64 1] (.call 41 [.one (.lf 13)] .one (.appk .u8 5 1 1 (.lf 10) (.lf 14) (.ret (.one (.lf 15))))))) (.prim (.bin .mul) [.num .i64 2, .lf 2] (.call 41 [.one (.lf 12)] .one (.appk .u8 5 1 1 (.lf 10) (.lf 13) (.ret (.one (.lf 14)))))))))) (.row 5 [.num .u8 0] 1 [] (.appk .u8 5 1 1 (.lf 6) (.lf 9) (.prim (.bin .lss) [.lf 2, .num .i64 0] (.ite (.lf 11) (.prim (.bin .mul) [.num .i64 ((-2)), .lf 2] (.prim (.bin .sub) [.lf 12, .num .i64 1] (.call 41 [.one (.lf 13)] .one (.appk .u8 5 1 1 (.lf 10) (.lf 14) (.ret (.one (.lf 15))))))) (.prim (.bin .mul) [.num .i64 2, .lf 2] (.call 41 [.one (.lf 12)] .one (.appk .u8 5 1 1 (.lf 10) (.lf 13) (.ret (.one (.lf 14)))))))))))))))))
theorem tr_fdy_eq : Sx.treeEs Try.prog 42 [] [] [999999] [(true, 3)] = some tr_fdy := by kernel_rfl

theorem RdD.open' {w : World} {v : Value} {d : Dy} (h : RdD w v d) : ∃ A n c, v = .agg #[.bool d.neg, .slice A n c, .int .i64 d.e] ∧ RdD w (.agg #[.bool d.neg, .slice A n c, .int .i64 d.e]) d := by
  obtain ⟨A, n, c, rfl, h2⟩ := h
  exact ⟨A, n, c, rfl, A, n, c, rfl, h2⟩

theorem fdy_any (v_d : Value) (d : Dy) (w : World) (h_d : RdD w v_d d) (hm : mayD d = true) : Calls Try.prog 42 #[v_d] w fun e w' => (∃ v, e = .returned v ∧ Sx.FrB w w' v (dyB d)) ∧ Below w.heap.size w w' := by
  obtain ⟨A_d, n_d, c_d, rfl, r_d⟩ := RdD.open' h_d
  obtain rfl := r_d.few
  obtain ⟨m1, m2, m3⟩ := dy_exp hm
  have hdl := dyB_len hm
  refine (Sx.runE (w0 := (Sx.wfr w [])) rfl (fun q h => by cases h) [] [] [999999] (ls := [.bool d.neg, .slice A_d d.m.length c_d, .int .i64 d.e]) (shs := [(true, 3)]) (R := fun v w' => Sx.FrB w w' v (dyB d)) (Pn := fun _ _ => False) tr_fdy_eq rfl (by decide) (fun q h => by cases h) ?_).mono (by
    rintro e w' ⟨hb, h⟩
    rcases h with ⟨v, rfl, h2⟩ | ⟨_, _, hf⟩
    · exact ⟨⟨v, rfl, h2⟩, hb.plain rfl⟩
    · exact hf.elim)
  unfold tr_fdy
  have fW := Sx.Wf.wfr w []
  have M_d := (RdD.nums r_d).max
  refine sat_chkB (by kernel_rfl) ?_
  refine sat_prim (v := .int .i64 ((d.m.length : Nat) : Int)) (by kernel_rfl) ?_
  refine Sx.sat_fcall (numB d.m.length) fW #[.int .i64 ((d.m.length : Nat) : Int)] (by kernel_rfl) (fun w1 h1 => fnum_any d.m.length (by omega) _) fun A0 c0 w0 h0 G0 => ?_
  replace r_d := h0.rdD r_d
  refine sat_loop (fun Kn vs W => ∃ (i : Nat) (A : Option Addr) (c : Nat), vs = [.int .i64 ((i : Nat) : Int), .slice A (numB d.m.length ++ (d.m.take i).flatMap limbB).length c] ∧ Kn = d.m.length - i ∧ i ≤ d.m.length ∧ Sx.Gr Sx.kB (Sx.wfr w []) 5 W (.slice A (numB d.m.length ++ (d.m.take i).flatMap limbB).length c) (numB d.m.length ++ (d.m.take i).flatMap limbB) ∧ RdD W.toWorld (.agg #[.bool d.neg, .slice A_d d.m.length c_d, .int .i64 d.e]) d) [.int .i64 0, .slice A0 (numB d.m.length).length c0] (by kernel_rfl) (fun w1 h1 => ⟨_, 0, A0, c0, by simp, rfl, by omega, by simpa using G0.le h1, h1.rdD r_d⟩) ?_
  clear h0 G0 r_d
  rintro Kn vs w1 h1 ⟨i, A1, c1, rfl, rfl, hi, G1, r_d⟩
  clear h1
  refine sat_prim (v := .int .i64 ((d.m.length : Nat) : Int)) (by kernel_rfl) ?_
  refine sat_prim (v := .bool (decide (((i : Nat) : Int) < ((d.m.length : Nat) : Int)))) (by kernel_rfl) ?_
  have hDl : dyB d = numB d.m.length ++ (d.m.flatMap limbB ++ ([bif d.neg then 1 else 0] ++ (bif decide (d.e < 0) then numB (-2 * d.e - 1).toNat else numB (2 * d.e).toNat))) := rfl
  have hdl2 := hdl
  rw [hDl] at hdl2
  simp only [List.length_append] at hdl2
  by_cases hil : i < d.m.length
  · refine sat_trueP (b := decide (((i : Nat) : Int) < ((d.m.length : Nat) : Int))) (by kernel_rfl) (decide_eq_true (by omega)) ?_
    have hx0 := flat_take (enc := limbB) (nth_some hil)
    have hle := flat_le (enc := limbB) (l := d.m) (i := i + 1)
    rw [hx0, List.length_append, limbB_len] at hle
    refine sat_loop (fun Kn vs W => ∃ (k : Nat) (A : Option Addr) (c : Nat), vs = [.int .i64 ((k : Nat) : Int), .slice A (numB d.m.length ++ (d.m.take i).flatMap limbB ++ ((List.range k).map fun k => nth d.m i / 256 ^ k % 256)).length c] ∧ Kn = 8 - k ∧ k ≤ 8 ∧ Sx.Gr Sx.kB (Sx.wfr w []) 5 W (.slice A (numB d.m.length ++ (d.m.take i).flatMap limbB ++ ((List.range k).map fun k => nth d.m i / 256 ^ k % 256)).length c) (numB d.m.length ++ (d.m.take i).flatMap limbB ++ ((List.range k).map fun k => nth d.m i / 256 ^ k % 256)) ∧ RdD W.toWorld (.agg #[.bool d.neg, .slice A_d d.m.length c_d, .int .i64 d.e]) d) [.int .i64 0, .slice A1 (numB d.m.length ++ (d.m.take i).flatMap limbB).length c1] (by kernel_rfl) (fun w1 h1 => ⟨_, 0, A1, c1, by simp, rfl, by omega, by simpa using G1.le h1, h1.rdD r_d⟩) ?_
    clear G1 r_d
    rintro Kn vs w2 h2 ⟨k, A2, c2, rfl, rfl, hk, G2, r_d⟩
    clear h2
    refine sat_prim (v := .bool (decide (((k : Nat) : Int) < 8))) (by kernel_rfl) ?_
    by_cases hk8 : k < 8
    · refine sat_trueP (b := decide (((k : Nat) : Int) < 8)) (by kernel_rfl) (decide_eq_true (by omega)) ?_
      refine Sx.sat_limb (kk := .i64) (j := 12) (xs := d.m) (i := i) (by kernel_rfl) fW.u64 (RdD.nums r_d) (by kernel_rfl) (by kernel_rfl) hil (by kernel_rfl) fun g3 o3 => ?_
      refine sat_prim (v := .int .i64 ((8 * k : Nat) : Int)) (Eq.trans (b := some (.int .i64 (IntKind.i64.wrap (8 * ((k : Nat) : Int))))) (by kernel_rfl) (sml (by omega) (by omega))) ?_
      refine sat_prim (v := .int .u64 ((8 * k : Nat) : Int)) (Eq.trans (by kernel_rfl) (pr_cvtn (n := 8 * k) (by omega))) ?_
      refine sat_prim (v := .int .u64 ((nth d.m i / 256 ^ k : Nat) : Int)) (Eq.trans (by kernel_rfl) (pr_shr8 (x := nth d.m i) (k := k) (by omega))) ?_
      refine sat_prim (v := .int .u8 ((nth d.m i / 256 ^ k % 256 : Nat) : Int)) (Eq.trans (by kernel_rfl) (pr_u8u (n := nth d.m i / 256 ^ k))) ?_
      refine Sx.sat_pushB (j := 18) (nth d.m i / 256 ^ k % 256) fW G2 (by kernel_rfl) (fun _ => by kernel_rfl) (by kernel_rfl) (fun y hy => by obtain rfl := List.mem_singleton.1 hy; kernel_rfl) (by simp only [List.length_append, List.length_map, List.length_range]; unfold MX; omega) fun r A3 c3 w3 h3 G3 => ?_
      replace r_d := h3.rdD r_d
      clear h3 G2
      refine sat_prim (v := .int .i64 ((k + 1 : Nat) : Int)) (Eq.trans (b := some (.int .i64 (IntKind.i64.wrap (((k : Nat) : Int) + 1)))) (by kernel_rfl) (sml (by omega) (by omega))) ?_
      have hl : numB d.m.length ++ (d.m.take i).flatMap limbB ++ ((List.range (k + 1)).map fun k => nth d.m i / 256 ^ k % 256) = numB d.m.length ++ (d.m.take i).flatMap limbB ++ ((List.range k).map fun k => nth d.m i / 256 ^ k % 256) ++ [nth d.m i / 256 ^ k % 256] := by rw [limb_take, ← List.append_assoc]
      rw [← hl] at G3
      exact sat_back [.int .i64 ((k + 1 : Nat) : Int), .slice A3 (numB d.m.length ++ (d.m.take i).flatMap limbB ++ ((List.range k).map fun k => nth d.m i / 256 ^ k % 256) ++ [nth d.m i / 256 ^ k % 256]).length c3] (by kernel_rfl) fun w9 h9 => ⟨_, by omega, k + 1, A3, c3, by rw [← hl], rfl, by omega, G3.le h9, h9.rdD r_d⟩
    · refine sat_falseP (b := decide (((k : Nat) : Int) < 8)) (by kernel_rfl) (decide_eq_false (by omega)) ?_
      refine sat_prim (v := .int .i64 ((i + 1 : Nat) : Int)) (Eq.trans (b := some (.int .i64 (IntKind.i64.wrap (((i : Nat) : Int) + 1)))) (by kernel_rfl) (sml (by omega) (by omega))) ?_
      have e8 : limbB (nth d.m i) = (List.range k).map fun k => nth d.m i / 256 ^ k % 256 := by rw [show k = 8 by omega]; rfl
      have hl : numB d.m.length ++ (d.m.take (i + 1)).flatMap limbB = numB d.m.length ++ (d.m.take i).flatMap limbB ++ ((List.range k).map fun k => nth d.m i / 256 ^ k % 256) := by rw [hx0, e8, ← List.append_assoc]
      rw [← hl] at G2
      exact Sx.sat_backO (d := 0) (d' := 1) rfl [.int .i64 ((i + 1 : Nat) : Int), .slice A2 (numB d.m.length ++ (d.m.take i).flatMap limbB ++ ((List.range k).map fun k => nth d.m i / 256 ^ k % 256)).length c2] (by kernel_rfl) fun w9 h9 => ⟨_, by omega, i + 1, A2, c2, by rw [← hl], rfl, by omega, G2.le h9, h9.rdD r_d⟩
  · refine sat_falseP (b := decide (((i : Nat) : Int) < ((d.m.length : Nat) : Int))) (by kernel_rfl) (decide_eq_false (by omega)) ?_
    have hl : numB d.m.length ++ (d.m.take i).flatMap limbB = numB d.m.length ++ d.m.flatMap limbB := by rw [List.take_of_length_le (by omega)]
    rw [hl] at G1 ⊢
    cases hN : d.neg
    · rw [hN] at r_d
      refine sat_false (by kernel_rfl) ?_
      refine Sx.sat_pushB (j := 9) 0 fW G1 (by kernel_rfl) (fun _ => by kernel_rfl) (by kernel_rfl) (fun y hy => by cases hy) (by simp only [List.length_append]; unfold MX; omega) fun r A2 c2 w2 h2 G2 => ?_
      replace r_d := h2.rdD r_d
      clear h2
      refine sat_prim (v := .bool (decide (d.e < 0))) (by kernel_rfl) ?_
      cases hE : decide (d.e < 0)
      · refine sat_false (by kernel_rfl) ?_
        obtain ⟨N, hM⟩ : ∃ N : Nat, (N : Int) = 2 * d.e := ⟨(2 * d.e).toNat, by have := of_decide_eq_false hE; omega⟩
        refine sat_prim (v := .int .i64 ((N : Nat) : Int)) (Eq.trans (b := some (.int .i64 (IntKind.i64.wrap (2 * d.e)))) (by kernel_rfl) (sml hM.symm (by omega))) ?_
        have hdy : dyB d = numB d.m.length ++ d.m.flatMap limbB ++ [0] ++ numB N := by unfold dyB; rw [hN, hE, ← hM, Int.toNat_natCast]; simp
        refine Sx.sat_fread (numB N) #[.int .i64 ((N : Nat) : Int)] (by kernel_rfl) (fun w3 h3 => fnum_any N (by omega) _) fun A3 c3 w3 h3 F3 => ?_
        refine Sx.sat_fapp fW (G2.le h3) F3 (by kernel_rfl) (by kernel_rfl) (by rw [← hdy]; unfold MX; omega) fun A4 c4 w4 h4 G4 => ?_
        exact sat_ret (.slice A4 (numB d.m.length ++ d.m.flatMap limbB ++ [0] ++ numB N).length c4) (by kernel_rfl) fun w9 h9 => by rw [hdy]; exact (G4.le h9).frb h9.wf
      · refine sat_true (by kernel_rfl) ?_
        obtain ⟨N, hM⟩ : ∃ N : Nat, (N : Int) = -2 * d.e - 1 := ⟨(-2 * d.e - 1).toNat, by have := of_decide_eq_true hE; omega⟩
        refine sat_prim (v := .int .i64 (-2 * d.e)) (Eq.trans (b := some (.int .i64 (IntKind.i64.wrap (-2 * d.e)))) (by kernel_rfl) (sml rfl (by omega))) ?_
        refine sat_prim (v := .int .i64 ((N : Nat) : Int)) (Eq.trans (b := some (.int .i64 (IntKind.i64.wrap (-2 * d.e - 1)))) (by kernel_rfl) (sml hM.symm (by omega))) ?_
        have hdy : dyB d = numB d.m.length ++ d.m.flatMap limbB ++ [0] ++ numB N := by unfold dyB; rw [hN, hE, ← hM, Int.toNat_natCast]; simp
        refine Sx.sat_fread (numB N) #[.int .i64 ((N : Nat) : Int)] (by kernel_rfl) (fun w3 h3 => fnum_any N (by omega) _) fun A3 c3 w3 h3 F3 => ?_
        refine Sx.sat_fapp fW (G2.le h3) F3 (by kernel_rfl) (by kernel_rfl) (by rw [← hdy]; unfold MX; omega) fun A4 c4 w4 h4 G4 => ?_
        exact sat_ret (.slice A4 (numB d.m.length ++ d.m.flatMap limbB ++ [0] ++ numB N).length c4) (by kernel_rfl) fun w9 h9 => by rw [hdy]; exact (G4.le h9).frb h9.wf
    · rw [hN] at r_d
      refine sat_true (by kernel_rfl) ?_
      refine Sx.sat_pushB (j := 9) 1 fW G1 (by kernel_rfl) (fun _ => by kernel_rfl) (by kernel_rfl) (fun y hy => by cases hy) (by simp only [List.length_append]; unfold MX; omega) fun r A2 c2 w2 h2 G2 => ?_
      replace r_d := h2.rdD r_d
      clear h2
      refine sat_prim (v := .bool (decide (d.e < 0))) (by kernel_rfl) ?_
      cases hE : decide (d.e < 0)
      · refine sat_false (by kernel_rfl) ?_
        obtain ⟨N, hM⟩ : ∃ N : Nat, (N : Int) = 2 * d.e := ⟨(2 * d.e).toNat, by have := of_decide_eq_false hE; omega⟩
        refine sat_prim (v := .int .i64 ((N : Nat) : Int)) (Eq.trans (b := some (.int .i64 (IntKind.i64.wrap (2 * d.e)))) (by kernel_rfl) (sml hM.symm (by omega))) ?_
        have hdy : dyB d = numB d.m.length ++ d.m.flatMap limbB ++ [1] ++ numB N := by unfold dyB; rw [hN, hE, ← hM, Int.toNat_natCast]; simp
        refine Sx.sat_fread (numB N) #[.int .i64 ((N : Nat) : Int)] (by kernel_rfl) (fun w3 h3 => fnum_any N (by omega) _) fun A3 c3 w3 h3 F3 => ?_
        refine Sx.sat_fapp fW (G2.le h3) F3 (by kernel_rfl) (by kernel_rfl) (by rw [← hdy]; unfold MX; omega) fun A4 c4 w4 h4 G4 => ?_
        exact sat_ret (.slice A4 (numB d.m.length ++ d.m.flatMap limbB ++ [1] ++ numB N).length c4) (by kernel_rfl) fun w9 h9 => by rw [hdy]; exact (G4.le h9).frb h9.wf
      · refine sat_true (by kernel_rfl) ?_
        obtain ⟨N, hM⟩ : ∃ N : Nat, (N : Int) = -2 * d.e - 1 := ⟨(-2 * d.e - 1).toNat, by have := of_decide_eq_true hE; omega⟩
        refine sat_prim (v := .int .i64 (-2 * d.e)) (Eq.trans (b := some (.int .i64 (IntKind.i64.wrap (-2 * d.e)))) (by kernel_rfl) (sml rfl (by omega))) ?_
        refine sat_prim (v := .int .i64 ((N : Nat) : Int)) (Eq.trans (b := some (.int .i64 (IntKind.i64.wrap (-2 * d.e - 1)))) (by kernel_rfl) (sml hM.symm (by omega))) ?_
        have hdy : dyB d = numB d.m.length ++ d.m.flatMap limbB ++ [1] ++ numB N := by unfold dyB; rw [hN, hE, ← hM, Int.toNat_natCast]; simp
        refine Sx.sat_fread (numB N) #[.int .i64 ((N : Nat) : Int)] (by kernel_rfl) (fun w3 h3 => fnum_any N (by omega) _) fun A3 c3 w3 h3 F3 => ?_
        refine Sx.sat_fapp fW (G2.le h3) F3 (by kernel_rfl) (by kernel_rfl) (by rw [← hdy]; unfold MX; omega) fun A4 c4 w4 h4 G4 => ?_
        exact sat_ret (.slice A4 (numB d.m.length ++ d.m.flatMap limbB ++ [1] ++ numB N).length c4) (by kernel_rfl) fun w9 h9 => by rw [hdy]; exact (G4.le h9).frb h9.wf

def tr_fiv : Sx.Tree := .chk [.lf 0, .lf 1, .lf 2, .lf 3, .lf 4, .lf 5] (.call 42 [.ag [.lf 0, .lf 1, .lf 2]] .one (.call 42 [.ag [.lf 3, .lf 4, .lf 5]] .one (.appk .u8 5 1 1 (.lf 6) (.lf 7) (.ret (.one (.lf 8))))))
theorem tr_fiv_eq : Sx.treeEs Try.prog 43 [] [] [999999] [(true, 6)] = some tr_fiv := by kernel_rfl

theorem fiv_any (v_a : Value) (a : Iv) (w : World) (h_a : RdI w v_a a) (hm : mayD a.lo = true ∧ mayD a.hi = true) : Calls Try.prog 43 #[v_a] w fun e w' => (∃ v, e = .returned v ∧ Sx.FrB w w' v (ivB a)) ∧ Below w.heap.size w w' := by
  obtain ⟨A, n, c, B, m, k, rfl, r_l, r_h⟩ := h_a
  refine (Sx.runE (w0 := (Sx.wfr w [])) rfl (fun q h => by cases h) [] [] [999999] (ls := [.bool a.lo.neg, .slice A n c, .int .i64 a.lo.e, .bool a.hi.neg, .slice B m k, .int .i64 a.hi.e]) (shs := [(true, 6)]) (R := fun v w' => Sx.FrB w w' v (ivB a)) (Pn := fun _ _ => False) tr_fiv_eq rfl (by decide) (fun q h => by cases h) ?_).mono (by
    rintro e w' ⟨hb, h⟩
    rcases h with ⟨v, rfl, h2⟩ | ⟨_, _, hf⟩
    · exact ⟨⟨v, rfl, h2⟩, hb.plain rfl⟩
    · exact hf.elim)
  unfold tr_fiv
  have fW := Sx.Wf.wfr w []
  refine sat_chkB (by kernel_rfl) ?_
  have hl := ivB_len hm
  refine Sx.sat_fcall (dyB a.lo) fW #[.agg #[.bool a.lo.neg, .slice A n c, .int .i64 a.lo.e]] (by kernel_rfl) (fun w1 h1 => fdy_any _ a.lo _ (h1.rdD r_l) hm.1) fun A0 c0 w0 h0 G0 => ?_
  replace r_h := h0.rdD r_h
  refine Sx.sat_fread (dyB a.hi) #[.agg #[.bool a.hi.neg, .slice B m k, .int .i64 a.hi.e]] (by kernel_rfl) (fun w1 h1 => fdy_any _ a.hi _ (h1.rdD r_h) hm.2) fun A3 c3 w3 h3 F3 => ?_
  refine Sx.sat_fapp fW (G0.le h3) F3 (by kernel_rfl) (by kernel_rfl) (by show (ivB a).length ≤ MX; unfold MX; omega) fun A4 c4 w4 h4 G4 => ?_
  exact sat_ret (.slice A4 (dyB a.lo ++ dyB a.hi).length c4) (by kernel_rfl) fun w9 h9 => (G4.le h9).frb h9.wf

end Go.Proofs.Ytpkfjfpknbhekaa
namespace Go.Proofs.Ytpkfjfpknbhekaa
open Go.RowKit Pl
open Sx (sat_call sat_chk sat_prim sat_ite sat_true sat_false sat_trueP sat_falseP sat_ret sat_row sat_callP sat_loop sat_back sat_idx sat_el sat_elf sat_elc sat_load sat_rowN sat_app sat_callB sat_alt rows_one rows_two all_nil all_cons okB okS okI)

namespace Sx
/-- Back to the head of a loop, over two loops behind it. -/
theorem sat_backP {w0 : Fr} {w : OW} {R : Value → World → Prop} {Pn : List PanicEntry → World → Prop} {Bk : Back} {ρ : List Value} {d d' : Nat} {vals : List At} {p q q' : List Value → OW → Prop} (hd : (d == d') = false) (vs : List Value) (hvs : denL ρ [] vals = vs) (h : ∀ w1, Le w0 w w1 → p vs w1) : satB Try.prog w0 R Pn (((Bk.set d p).set d' q).set d' q') (.back d vals) ρ w := by
  intro w1 h1
  simp only [Back.set]
  rw [if_neg (by simpa using hd), if_neg (by simpa using hd)]
  simp only [if_true, hvs]
  exact h w1 h1
end Sx

def tr_fput : Sx.Tree := .chk [.lf 0, .lf 1, .lf 2, .lf 3, .lf 4, .lf 5, .lf 6, .lf 7, .lf 8, .lf 9, .lf 10] (.call 41 [.one (.lf 0)] .one (.call 41 [.one (.lf 1)] .one (.appk .u8 5 1 1 (.lf 11) (.lf 12) (.call 41 [.one (.lf 2)] .one (.appk .u8 5 1 1 (.lf 13) (.lf 14) (.call 42 [.ag [.lf 3, .lf 4, .lf 5]] .one (.appk .u8 5 1 1 (.lf 15) (.lf 16) (.call 42 [.ag [.lf 6, .lf 7, .lf 8]] .one (.appk .u8 5 1 1 (.lf 17) (.lf 18) (.prim .len [.lf 9] (.call 41 [.one (.lf 20)] .one (.appk .u8 5 1 1 (.lf 19) (.lf 21) (.loop 0 [.num .i64 0, .lf 22] (.prim .len [.lf 9] (.prim (.bin .lss) [.lf 23, .lf 25] (.ite (.lf 26) (.prim (.idx 1) [.lf 9, .lf 23] (.loadm 45 (.lf 27) .one (.prim .len [.lf 28] (.call 41 [.one (.lf 29)] .one (.appk .u8 5 1 1 (.lf 24) (.lf 30) (.loop 1 [.num .i64 0, .lf 31] (.prim (.idx 1) [.lf 9, .lf 23] (.loadm 45 (.lf 34) .one (.prim .len [.lf 35] (.prim (.bin .lss) [.lf 32, .lf 36] (.ite (.lf 37) (.prim (.idx 1) [.lf 9, .lf 23] (.loadm 45 (.lf 38) .one (.prim (.idx 6) [.lf 39, .lf 32] (.loadm 61 (.lf 40) (.ag 6) (.call 43 [.ag [.lf 41, .lf 42, .lf 43, .lf 44, .lf 45, .lf 46]] .one (.appk .u8 5 1 1 (.lf 33) (.lf 47) (.prim (.bin .add) [.lf 32, .num .i64 1] (.back 1 [.lf 49, .lf 48])))))))) (.prim (.bin .add) [.lf 23, .num .i64 1] (.back 0 [.lf 38, .lf 33]))))))))))))) (.prim .len [.lf 10] (.call 41 [.one (.lf 27)] .one (.appk .u8 5 1 1 (.lf 24) (.lf 28) (.loop 0 [.num .i64 0, .lf 29] (.prim .len [.lf 10] (.prim (.bin .lss) [.lf 30, .lf 32] (.ite (.lf 33) (.prim (.idx 1) [.lf 10, .lf 30] (.loadm 46 (.lf 34) .one (.prim .len [.lf 35] (.call 41 [.one (.lf 36)] .one (.appk .u8 5 1 1 (.lf 31) (.lf 37) (.loop 1 [.num .i64 0, .lf 38] (.prim (.idx 1) [.lf 10, .lf 30] (.loadm 46 (.lf 41) .one (.prim .len [.lf 42] (.prim (.bin .lss) [.lf 39, .lf 43] (.ite (.lf 44) (.prim (.idx 1) [.lf 10, .lf 30] (.loadm 46 (.lf 45) .one (.prim (.idx 2) [.lf 46, .lf 39] (.loadm 50 (.lf 47) (.ag 2) (.chk [.lf 48, .lf 49] (.prim .len [.lf 49] (.call 41 [.one (.lf 50)] .one (.appk .u8 5 1 1 (.lf 40) (.lf 51) (.loop 2 [.num .i64 0, .lf 52] (.prim .len [.lf 48] (.prim (.bin .lss) [.lf 53, .lf 55] (.ite (.lf 56) (.prim (.idx 3) [.lf 48, .lf 53] (.loadm 24 (.lf 57) (.ag 3) (.call 42 [.ag [.lf 58, .lf 59, .lf 60]] .one (.appk .u8 5 1 1 (.lf 54) (.lf 61) (.prim (.bin .add) [.lf 53, .num .i64 1] (.back 2 [.lf 63, .lf 62])))))) (.loop 2 [.num .i64 0, .lf 54] (.prim .len [.lf 49] (.prim (.bin .lss) [.lf 57, .lf 59] (.ite (.lf 60) (.prim (.idx 6) [.lf 49, .lf 57] (.loadm 61 (.lf 61) (.ag 6) (.call 43 [.ag [.lf 62, .lf 63, .lf 64, .lf 65, .lf 66, .lf 67]] .one (.appk .u8 5 1 1 (.lf 58) (.lf 68) (.prim (.bin .add) [.lf 57, .num .i64 1] (.back 2 [.lf 70, .lf 69])))))) (.prim (.bin .add) [.lf 39, .num .i64 1] (.back 1 [.lf 61, .lf 58])))))))))))))))))) (.prim (.bin .add) [.lf 30, .num .i64 1] (.back 0 [.lf 45, .lf 40]))))))))))))) (.ret (.one (.lf 31))))))))))))))))))))))))))
theorem tr_fput_eq : Sx.treeEs Try.prog 11 [] [] [999999] [(true, 11)] = some tr_fput := by kernel_rfl

set_option maxHeartbeats 4000000 in
theorem fput_any (v_r : Value) (r : Rec) (w : World) (h_r : RcAt (fun _ => True) w v_r r) (hm : mayR r = true) : Calls Try.prog 11 #[v_r] w fun e w' => (∃ v, e = .returned v ∧ Sx.FrB w w' v (recB r)) ∧ Below w.heap.size w w' := by
  obtain ⟨A_r1, n_r1, c_r1, A_r2, n_r2, c_r2, X_r, x_r, Y_r, y_r, rfl, r_r1, r_r2, F_r3, F_r4⟩ := h_r
  replace F_r3 := F_r3.start
  replace F_r4 := F_r4.start
  have m := MayR.of hm
  have hl9 := recB_len9 hm
  have m1 := m.k1
  have m2 := m.k3
  have m3 := m.e0
  have m4 := m.e1
  have m5 := m.c0
  have m6 := m.c1
  have m7 := m.nb
  have m8 := m.ns
  have hrec : recB r = numB r.kind.toNat ++ numB r.epoch.toNat ++ numB r.code.toNat ++ dyB r.t ++ dyB r.h ++ numB r.boxes.length ++ r.boxes.flatMap (rowB ivB) ++ numB r.sigs.length ++ r.sigs.flatMap (rowB tbB) := by
    unfold recB rowB
    simp only [List.append_assoc]
  rw [hrec] at hl9
  simp only [List.length_append] at hl9
  refine (Sx.runE (w0 := (Sx.wfr w [])) rfl (fun q h => by cases h) [] [] [999999] (ls := [.int .i64 r.kind, .int .i64 r.epoch, .int .i64 r.code, .bool r.t.neg, .slice A_r1 n_r1 c_r1, .int .i64 r.t.e, .bool r.h.neg, .slice A_r2 n_r2 c_r2, .int .i64 r.h.e, .slice X_r r.boxes.length x_r, .slice Y_r r.sigs.length y_r]) (shs := [(true, 11)]) (R := fun v w' => Sx.FrB w w' v (recB r)) (Pn := fun _ _ => False) tr_fput_eq rfl (by decide) (fun q h => by cases h) ?_).mono (by
    rintro e w' ⟨hb, h⟩
    rcases h with ⟨v, rfl, h2⟩ | ⟨_, _, hf⟩
    · exact ⟨⟨v, rfl, h2⟩, hb.plain rfl⟩
    · exact hf.elim)
  unfold tr_fput
  have fW := Sx.Wf.wfr w []
  refine sat_chkB (by kernel_rfl) ?_
  refine Sx.sat_fcall (numB r.kind.toNat) fW #[.int .i64 r.kind] (by kernel_rfl) (fun w1 h1 => by have q := fnum_any r.kind.toNat (by omega) w1.toWorld; rw [Int.toNat_of_nonneg (by omega)] at q; exact q) fun A_G0 c_G0 w0 h0 G0 => ?_
  replace r_r1 := h0.rdD r_r1
  replace r_r2 := h0.rdD r_r2
  replace F_r3 := F_r3.mv h0.mv
  replace F_r4 := F_r4.mv h0.mv
  clear h0
  refine Sx.sat_fread (numB r.epoch.toNat) #[.int .i64 r.epoch] (by kernel_rfl) (fun w1 h1 => by have q := fnum_any r.epoch.toNat (by omega) w1.toWorld; rw [Int.toNat_of_nonneg (by omega)] at q; exact q) fun A1 c1 w1 h1 F1 => ?_
  replace r_r1 := h1.rdD r_r1
  replace r_r2 := h1.rdD r_r2
  replace F_r3 := F_r3.mv h1.mv
  replace F_r4 := F_r4.mv h1.mv
  replace G0 := G0.le h1
  clear h1
  refine Sx.sat_fapp fW G0 F1 (by kernel_rfl) (by kernel_rfl) (by simp only [List.length_append] at *; unfold MX; omega) fun A_G1 c_G1 w2 h2 G1 => ?_
  replace r_r1 := h2.rdD r_r1
  replace r_r2 := h2.rdD r_r2
  replace F_r3 := F_r3.mv h2.mv
  replace F_r4 := F_r4.mv h2.mv
  clear h2 F1 G0
  refine Sx.sat_fread (numB r.code.toNat) #[.int .i64 r.code] (by kernel_rfl) (fun w1 h1 => by have q := fnum_any r.code.toNat (by omega) w1.toWorld; rw [Int.toNat_of_nonneg (by omega)] at q; exact q) fun A3 c3 w3 h3 F3 => ?_
  replace r_r1 := h3.rdD r_r1
  replace r_r2 := h3.rdD r_r2
  replace F_r3 := F_r3.mv h3.mv
  replace F_r4 := F_r4.mv h3.mv
  replace G1 := G1.le h3
  clear h3
  refine Sx.sat_fapp fW G1 F3 (by kernel_rfl) (by kernel_rfl) (by simp only [List.length_append] at *; unfold MX; omega) fun A_G2 c_G2 w4 h4 G2 => ?_
  replace r_r1 := h4.rdD r_r1
  replace r_r2 := h4.rdD r_r2
  replace F_r3 := F_r3.mv h4.mv
  replace F_r4 := F_r4.mv h4.mv
  clear h4 F3 G1
  refine Sx.sat_fread (dyB r.t) #[.agg #[.bool r.t.neg, .slice A_r1 n_r1 c_r1, .int .i64 r.t.e]] (by kernel_rfl) (fun w1 h1 => fdy_any _ r.t _ (h1.rdD r_r1) m.t) fun A5 c5 w5 h5 F5 => ?_
  replace r_r1 := h5.rdD r_r1
  replace r_r2 := h5.rdD r_r2
  replace F_r3 := F_r3.mv h5.mv
  replace F_r4 := F_r4.mv h5.mv
  replace G2 := G2.le h5
  clear h5
  refine Sx.sat_fapp fW G2 F5 (by kernel_rfl) (by kernel_rfl) (by simp only [List.length_append] at *; unfold MX; omega) fun A_G3 c_G3 w6 h6 G3 => ?_
  replace r_r1 := h6.rdD r_r1
  replace r_r2 := h6.rdD r_r2
  replace F_r3 := F_r3.mv h6.mv
  replace F_r4 := F_r4.mv h6.mv
  clear h6 F5 G2
  refine Sx.sat_fread (dyB r.h) #[.agg #[.bool r.h.neg, .slice A_r2 n_r2 c_r2, .int .i64 r.h.e]] (by kernel_rfl) (fun w1 h1 => fdy_any _ r.h _ (h1.rdD r_r2) m.h) fun A7 c7 w7 h7 F7 => ?_
  replace r_r1 := h7.rdD r_r1
  replace r_r2 := h7.rdD r_r2
  replace F_r3 := F_r3.mv h7.mv
  replace F_r4 := F_r4.mv h7.mv
  replace G3 := G3.le h7
  clear h7
  refine Sx.sat_fapp fW G3 F7 (by kernel_rfl) (by kernel_rfl) (by simp only [List.length_append] at *; unfold MX; omega) fun A_G4 c_G4 w8 h8 G4 => ?_
  replace r_r1 := h8.rdD r_r1
  replace r_r2 := h8.rdD r_r2
  replace F_r3 := F_r3.mv h8.mv
  replace F_r4 := F_r4.mv h8.mv
  clear h8 F7 G3
  refine sat_prim (v := .int .i64 ((r.boxes.length : Nat) : Int)) (by kernel_rfl) ?_
  refine Sx.sat_fread (numB r.boxes.length) #[.int .i64 ((r.boxes.length : Nat) : Int)] (by kernel_rfl) (fun w1 h1 => fnum_any r.boxes.length (by omega) _) fun A9 c9 w9 h9 F9 => ?_
  replace r_r1 := h9.rdD r_r1
  replace r_r2 := h9.rdD r_r2
  replace F_r3 := F_r3.mv h9.mv
  replace F_r4 := F_r4.mv h9.mv
  replace G4 := G4.le h9
  clear h9
  refine Sx.sat_fapp fW G4 F9 (by kernel_rfl) (by kernel_rfl) (by simp only [List.length_append] at *; unfold MX; omega) fun A_G5 c_G5 w10 h10 G5 => ?_
  replace r_r1 := h10.rdD r_r1
  replace r_r2 := h10.rdD r_r2
  replace F_r3 := F_r3.mv h10.mv
  replace F_r4 := F_r4.mv h10.mv
  clear h10 F9 G4
  generalize hP : numB r.kind.toNat ++ numB r.epoch.toNat ++ numB r.code.toNat ++ dyB r.t ++ dyB r.h ++ numB r.boxes.length = P at *
  have hPl : P.length = (numB r.kind.toNat).length + (numB r.epoch.toNat).length + (numB r.code.toNat).length + (dyB r.t).length + (dyB r.h).length + (numB r.boxes.length).length := by rw [← hP]; simp only [List.length_append]
  refine sat_loop (fun Kn vs W => ∃ (i : Nat) (A : Option Addr) (c : Nat), vs = [.int .i64 ((i : Nat) : Int), .slice A (P ++ (r.boxes.take i).flatMap (rowB ivB)).length c] ∧ Kn = r.boxes.length - i ∧ i ≤ r.boxes.length ∧ Sx.Gr Sx.kB (Sx.wfr w []) 5 W (.slice A (P ++ (r.boxes.take i).flatMap (rowB ivB)).length c) (P ++ (r.boxes.take i).flatMap (rowB ivB))) [.int .i64 0, .slice A_G5 (P).length c_G5] (by kernel_rfl) (fun w1 h1 => ⟨_, 0, A_G5, c_G5, by simp, rfl, by omega, by simpa using G5.le h1⟩) ?_
  clear G5
  rintro Kn vs w11 h11 ⟨i, A_GIx11, c_GIx11, rfl, rfl, h_i, GIx11⟩
  replace r_r1 := h11.rdD r_r1
  replace r_r2 := h11.rdD r_r2
  replace F_r3 := F_r3.mv h11.mv
  replace F_r4 := F_r4.mv h11.mv
  clear h11
  refine sat_prim (v := .int .i64 ((r.boxes.length : Nat) : Int)) (by kernel_rfl) ?_
  refine sat_prim (v := .bool (decide (((i : Nat) : Int) < ((r.boxes.length : Nat) : Int)))) (by kernel_rfl) ?_
  by_cases hlt_i : i < r.boxes.length
  · refine sat_trueP (b := decide (((i : Nat) : Int) < ((r.boxes.length : Nat) : Int))) (by kernel_rfl) (decide_eq_true (by omega)) ?_
    obtain ⟨x, h_x⟩ : ∃ x_, r.boxes[i]? = some x_ := ⟨_, List.getElem?_eq_getElem hlt_i⟩
    have hx0 := flat_take (enc := rowB ivB) h_x
    have hle := flat_le (enc := rowB ivB) (l := r.boxes) (i := i + 1)
    rw [hx0, List.length_append] at hle
    have hmx := m.bx x (List.mem_of_getElem? h_x)
    have hrx : (rowB ivB x).length = (numB x.length).length + (x.flatMap ivB).length := by unfold rowB; rw [List.length_append]
    refine sat_idx (A := X_r) (c := x_r) (kk := .i64) (i) (by kernel_rfl) (by kernel_rfl) (hlt_i) F_r3.addr fun g1 o1 e1 => ?_
    refine Sx.sat_m ?_
    refine sat_elc (d := 0) F_r3 e1 h_x rfl (by kernel_rfl) (by kernel_rfl) ?_
    rintro _ ⟨A_L1, c_L1, rfl, F_L1⟩
    refine ⟨_, rfl, ?_⟩
    refine sat_prim (v := .int .i64 ((x.length : Nat) : Int)) (by kernel_rfl) ?_
    refine Sx.sat_fread (numB x.length) #[.int .i64 ((x.length : Nat) : Int)] (by kernel_rfl) (fun w1 h1 => fnum_any x.length (by omega) _) fun A12 c12 w12 h12 F12 => ?_
    replace r_r1 := h12.rdD r_r1
    replace r_r2 := h12.rdD r_r2
    replace F_r3 := F_r3.mv h12.mv
    replace F_r4 := F_r4.mv h12.mv
    replace GIx11 := GIx11.le h12
    clear h12
    refine Sx.sat_fapp fW GIx11 F12 (by kernel_rfl) (by kernel_rfl) (by simp only [List.length_append] at *; unfold MX; omega) fun A_G6 c_G6 w13 h13 G6 => ?_
    replace r_r1 := h13.rdD r_r1
    replace r_r2 := h13.rdD r_r2
    replace F_r3 := F_r3.mv h13.mv
    replace F_r4 := F_r4.mv h13.mv
    clear h13 F12 GIx11
    clear F_L1
    refine sat_loop (fun Kn vs W => ∃ (k : Nat) (A : Option Addr) (c : Nat), vs = [.int .i64 ((k : Nat) : Int), .slice A (P ++ (r.boxes.take i).flatMap (rowB ivB) ++ numB x.length ++ (x.take k).flatMap ivB).length c] ∧ Kn = x.length - k ∧ k ≤ x.length ∧ Sx.Gr Sx.kB (Sx.wfr w []) 5 W (.slice A (P ++ (r.boxes.take i).flatMap (rowB ivB) ++ numB x.length ++ (x.take k).flatMap ivB).length c) (P ++ (r.boxes.take i).flatMap (rowB ivB) ++ numB x.length ++ (x.take k).flatMap ivB)) [.int .i64 0, .slice A_G6 (P ++ (r.boxes.take i).flatMap (rowB ivB) ++ numB x.length).length c_G6] (by kernel_rfl) (fun w1 h1 => ⟨_, 0, A_G6, c_G6, by simp, rfl, by omega, by simpa using G6.le h1⟩) ?_
    clear G6
    rintro Kn vs w14 h14 ⟨k, A_GKx14, c_GKx14, rfl, rfl, h_k, GKx14⟩
    replace r_r1 := h14.rdD r_r1
    replace r_r2 := h14.rdD r_r2
    replace F_r3 := F_r3.mv h14.mv
    replace F_r4 := F_r4.mv h14.mv
    clear h14
    refine sat_idx (A := X_r) (c := x_r) (kk := .i64) (i) (by kernel_rfl) (by kernel_rfl) (hlt_i) F_r3.addr fun g2 o2 e2 => ?_
    refine Sx.sat_m ?_
    refine sat_elc (d := 0) F_r3 e2 h_x rfl (by kernel_rfl) (by kernel_rfl) ?_
    rintro _ ⟨A_L2, c_L2, rfl, F_L2⟩
    refine ⟨_, rfl, ?_⟩
    refine sat_prim (v := .int .i64 ((x.length : Nat) : Int)) (by kernel_rfl) ?_
    refine sat_prim (v := .bool (decide (((k : Nat) : Int) < ((x.length : Nat) : Int)))) (by kernel_rfl) ?_
    by_cases hlt_k : k < x.length
    · refine sat_trueP (b := decide (((k : Nat) : Int) < ((x.length : Nat) : Int))) (by kernel_rfl) (decide_eq_true (by omega)) ?_
      clear F_L2
      refine sat_idx (A := X_r) (c := x_r) (kk := .i64) (i) (by kernel_rfl) (by kernel_rfl) (hlt_i) F_r3.addr fun g3 o3 e3 => ?_
      refine Sx.sat_m ?_
      refine sat_elc (d := 0) F_r3 e3 h_x rfl (by kernel_rfl) (by kernel_rfl) ?_
      rintro _ ⟨A_L3, c_L3, rfl, F_L3⟩
      refine ⟨_, rfl, ?_⟩
      obtain ⟨y, h_y⟩ : ∃ x_, x[k]? = some x_ := ⟨_, List.getElem?_eq_getElem hlt_k⟩
      have hy0 := flat_take (enc := ivB) h_y
      have hle2 := flat_le (enc := ivB) (l := x) (i := k + 1)
      rw [hy0, List.length_append] at hle2
      refine sat_idx (A := A_L3) (c := c_L3) (kk := .i64) (k) (by kernel_rfl) (by kernel_rfl) (hlt_k) F_L3.addr fun g4 o4 e4 => ?_
      refine Sx.sat_m ?_
      refine sat_el F_L3 e4 h_y rfl (by kernel_rfl) (by kernel_rfl) (by kernel_rfl) ?_
      rintro _ ⟨A_y, n_y, c_y, B_y, m_y, k_y, rfl, r_yl, r_yh⟩
      refine Sx.sat_fread (ivB y) #[.agg #[.bool y.lo.neg, .slice A_y n_y c_y, .int .i64 y.lo.e, .bool y.hi.neg, .slice B_y m_y k_y, .int .i64 y.hi.e]] (by kernel_rfl) (fun w1 h1 => fiv_any _ y _ (mkI (h1.rdD r_yl) (h1.rdD r_yh)) (mayI_dys (hmx.2 y (List.mem_of_getElem? h_y)))) fun A15 c15 w15 h15 F15 => ?_
      replace r_r1 := h15.rdD r_r1
      replace r_r2 := h15.rdD r_r2
      replace F_r3 := F_r3.mv h15.mv
      replace F_r4 := F_r4.mv h15.mv
      replace F_L3 := F_L3.mv h15.mv
      replace r_yl := h15.rdD r_yl
      replace r_yh := h15.rdD r_yh
      replace GKx14 := GKx14.le h15
      clear h15
      refine Sx.sat_fapp fW GKx14 F15 (by kernel_rfl) (by kernel_rfl) (by simp only [List.length_append] at *; unfold MX; omega) fun A_G7 c_G7 w16 h16 G7 => ?_
      replace r_r1 := h16.rdD r_r1
      replace r_r2 := h16.rdD r_r2
      replace F_r3 := F_r3.mv h16.mv
      replace F_r4 := F_r4.mv h16.mv
      replace F_L3 := F_L3.mv h16.mv
      replace r_yl := h16.rdD r_yl
      replace r_yh := h16.rdD r_yh
      clear h16 F15 GKx14
      refine sat_prim (v := .int .i64 ((k + 1 : Nat) : Int)) (Eq.trans (b := some (.int .i64 (IntKind.i64.wrap (((k : Nat) : Int) + 1)))) (by kernel_rfl) (sml (by omega) (by omega))) ?_
      have hnx : P ++ (r.boxes.take i).flatMap (rowB ivB) ++ numB x.length ++ (x.take (k + 1)).flatMap ivB = P ++ (r.boxes.take i).flatMap (rowB ivB) ++ numB x.length ++ (x.take k).flatMap ivB ++ ivB y := by rw [hy0, ← List.append_assoc]
      rw [← hnx] at G7
      exact sat_back [.int .i64 ((k + 1 : Nat) : Int), .slice A_G7 (P ++ (r.boxes.take i).flatMap (rowB ivB) ++ numB x.length ++ (x.take k).flatMap ivB ++ ivB y).length c_G7] (by kernel_rfl) fun w9 h9 => ⟨_, by omega, k + 1, A_G7, c_G7, by rw [← hnx], rfl, by omega, G7.le h9⟩
    · refine sat_falseP (b := decide (((k : Nat) : Int) < ((x.length : Nat) : Int))) (by kernel_rfl) (decide_eq_false (by omega)) ?_
      clear F_L2
      refine sat_prim (v := .int .i64 ((i + 1 : Nat) : Int)) (Eq.trans (b := some (.int .i64 (IntKind.i64.wrap (((i : Nat) : Int) + 1)))) (by kernel_rfl) (sml (by omega) (by omega))) ?_
      have hnx : P ++ (r.boxes.take (i + 1)).flatMap (rowB ivB) = P ++ (r.boxes.take i).flatMap (rowB ivB) ++ numB x.length ++ (x.take k).flatMap ivB := by rw [hx0, List.take_of_length_le (show x.length ≤ k by omega)]; unfold rowB; simp only [List.append_assoc]
      rw [← hnx] at GKx14
      exact Sx.sat_backO (d := 0) (d' := 1) rfl [.int .i64 ((i + 1 : Nat) : Int), .slice A_GKx14 (P ++ (r.boxes.take i).flatMap (rowB ivB) ++ numB x.length ++ (x.take k).flatMap ivB).length c_GKx14] (by kernel_rfl) fun w9 h9 => ⟨_, by omega, i + 1, A_GKx14, c_GKx14, by rw [← hnx], rfl, by omega, GKx14.le h9⟩
  · refine sat_falseP (b := decide (((i : Nat) : Int) < ((r.boxes.length : Nat) : Int))) (by kernel_rfl) (decide_eq_false (by omega)) ?_
    rw [List.take_of_length_le (by omega)] at GIx11 ⊢
    generalize r.boxes.flatMap (rowB ivB) = Q at *
    refine sat_prim (v := .int .i64 ((r.sigs.length : Nat) : Int)) (by kernel_rfl) ?_
    refine Sx.sat_fread (numB r.sigs.length) #[.int .i64 ((r.sigs.length : Nat) : Int)] (by kernel_rfl) (fun w1 h1 => fnum_any r.sigs.length (by omega) _) fun A17 c17 w17 h17 F17 => ?_
    replace r_r1 := h17.rdD r_r1
    replace r_r2 := h17.rdD r_r2
    replace F_r3 := F_r3.mv h17.mv
    replace F_r4 := F_r4.mv h17.mv
    replace GIx11 := GIx11.le h17
    clear h17
    refine Sx.sat_fapp fW GIx11 F17 (by kernel_rfl) (by kernel_rfl) (by simp only [List.length_append] at *; unfold MX; omega) fun A_G8 c_G8 w18 h18 G8 => ?_
    replace r_r1 := h18.rdD r_r1
    replace r_r2 := h18.rdD r_r2
    replace F_r3 := F_r3.mv h18.mv
    replace F_r4 := F_r4.mv h18.mv
    clear h18 F17 GIx11
    generalize hS : P ++ Q ++ numB r.sigs.length = S at *
    have hSl : S.length = P.length + Q.length + (numB r.sigs.length).length := by rw [← hS]; simp only [List.length_append]
    refine sat_loop (fun Kn vs W => ∃ (a : Nat) (A : Option Addr) (c : Nat), vs = [.int .i64 ((a : Nat) : Int), .slice A (S ++ (r.sigs.take a).flatMap (rowB tbB)).length c] ∧ Kn = r.sigs.length - a ∧ a ≤ r.sigs.length ∧ Sx.Gr Sx.kB (Sx.wfr w []) 5 W (.slice A (S ++ (r.sigs.take a).flatMap (rowB tbB)).length c) (S ++ (r.sigs.take a).flatMap (rowB tbB))) [.int .i64 0, .slice A_G8 (S).length c_G8] (by kernel_rfl) (fun w1 h1 => ⟨_, 0, A_G8, c_G8, by simp, rfl, by omega, by simpa using G8.le h1⟩) ?_
    clear G8
    rintro Kn vs w19 h19 ⟨a, A_GAx19, c_GAx19, rfl, rfl, h_a, GAx19⟩
    replace r_r1 := h19.rdD r_r1
    replace r_r2 := h19.rdD r_r2
    replace F_r3 := F_r3.mv h19.mv
    replace F_r4 := F_r4.mv h19.mv
    clear h19
    refine sat_prim (v := .int .i64 ((r.sigs.length : Nat) : Int)) (by kernel_rfl) ?_
    refine sat_prim (v := .bool (decide (((a : Nat) : Int) < ((r.sigs.length : Nat) : Int)))) (by kernel_rfl) ?_
    by_cases hlt_a : a < r.sigs.length
    · refine sat_trueP (b := decide (((a : Nat) : Int) < ((r.sigs.length : Nat) : Int))) (by kernel_rfl) (decide_eq_true (by omega)) ?_
      obtain ⟨x, h_x⟩ : ∃ x_, r.sigs[a]? = some x_ := ⟨_, List.getElem?_eq_getElem hlt_a⟩
      have hx0 := flat_take (enc := rowB tbB) h_x
      have hle := flat_le (enc := rowB tbB) (l := r.sigs) (i := a + 1)
      rw [hx0, List.length_append] at hle
      have hmx := m.sg x (List.mem_of_getElem? h_x)
      have hrx : (rowB tbB x).length = (numB x.length).length + (x.flatMap tbB).length := by unfold rowB; rw [List.length_append]
      refine sat_idx (A := Y_r) (c := y_r) (kk := .i64) (a) (by kernel_rfl) (by kernel_rfl) (hlt_a) F_r4.addr fun g1 o1 e1 => ?_
      refine Sx.sat_m ?_
      refine sat_elc (d := 0) F_r4 e1 h_x rfl (by kernel_rfl) (by kernel_rfl) ?_
      rintro _ ⟨A_L1, c_L1, rfl, F_L1⟩
      refine ⟨_, rfl, ?_⟩
      refine sat_prim (v := .int .i64 ((x.length : Nat) : Int)) (by kernel_rfl) ?_
      refine Sx.sat_fread (numB x.length) #[.int .i64 ((x.length : Nat) : Int)] (by kernel_rfl) (fun w1 h1 => fnum_any x.length (by omega) _) fun A20 c20 w20 h20 F20 => ?_
      replace r_r1 := h20.rdD r_r1
      replace r_r2 := h20.rdD r_r2
      replace F_r3 := F_r3.mv h20.mv
      replace F_r4 := F_r4.mv h20.mv
      replace GAx19 := GAx19.le h20
      clear h20
      refine Sx.sat_fapp fW GAx19 F20 (by kernel_rfl) (by kernel_rfl) (by simp only [List.length_append] at *; unfold MX; omega) fun A_G9 c_G9 w21 h21 G9 => ?_
      replace r_r1 := h21.rdD r_r1
      replace r_r2 := h21.rdD r_r2
      replace F_r3 := F_r3.mv h21.mv
      replace F_r4 := F_r4.mv h21.mv
      clear h21 F20 GAx19
      clear F_L1
      refine sat_loop (fun Kn vs W => ∃ (k : Nat) (A : Option Addr) (c : Nat), vs = [.int .i64 ((k : Nat) : Int), .slice A (S ++ (r.sigs.take a).flatMap (rowB tbB) ++ numB x.length ++ (x.take k).flatMap tbB).length c] ∧ Kn = x.length - k ∧ k ≤ x.length ∧ Sx.Gr Sx.kB (Sx.wfr w []) 5 W (.slice A (S ++ (r.sigs.take a).flatMap (rowB tbB) ++ numB x.length ++ (x.take k).flatMap tbB).length c) (S ++ (r.sigs.take a).flatMap (rowB tbB) ++ numB x.length ++ (x.take k).flatMap tbB)) [.int .i64 0, .slice A_G9 (S ++ (r.sigs.take a).flatMap (rowB tbB) ++ numB x.length).length c_G9] (by kernel_rfl) (fun w1 h1 => ⟨_, 0, A_G9, c_G9, by simp, rfl, by omega, by simpa using G9.le h1⟩) ?_
      clear G9
      rintro Kn vs w22 h22 ⟨k, A_GKx22, c_GKx22, rfl, rfl, h_k, GKx22⟩
      replace r_r1 := h22.rdD r_r1
      replace r_r2 := h22.rdD r_r2
      replace F_r3 := F_r3.mv h22.mv
      replace F_r4 := F_r4.mv h22.mv
      clear h22
      refine sat_idx (A := Y_r) (c := y_r) (kk := .i64) (a) (by kernel_rfl) (by kernel_rfl) (hlt_a) F_r4.addr fun g2 o2 e2 => ?_
      refine Sx.sat_m ?_
      refine sat_elc (d := 0) F_r4 e2 h_x rfl (by kernel_rfl) (by kernel_rfl) ?_
      rintro _ ⟨A_L2, c_L2, rfl, F_L2⟩
      refine ⟨_, rfl, ?_⟩
      refine sat_prim (v := .int .i64 ((x.length : Nat) : Int)) (by kernel_rfl) ?_
      refine sat_prim (v := .bool (decide (((k : Nat) : Int) < ((x.length : Nat) : Int)))) (by kernel_rfl) ?_
      by_cases hlt_k : k < x.length
      · refine sat_trueP (b := decide (((k : Nat) : Int) < ((x.length : Nat) : Int))) (by kernel_rfl) (decide_eq_true (by omega)) ?_
        clear F_L2
        refine sat_idx (A := Y_r) (c := y_r) (kk := .i64) (a) (by kernel_rfl) (by kernel_rfl) (hlt_a) F_r4.addr fun g3 o3 e3 => ?_
        refine Sx.sat_m ?_
        refine sat_elc (d := 0) F_r4 e3 h_x rfl (by kernel_rfl) (by kernel_rfl) ?_
        rintro _ ⟨A_L3, c_L3, rfl, F_L3⟩
        refine ⟨_, rfl, ?_⟩
        obtain ⟨t, h_t⟩ : ∃ x_, x[k]? = some x_ := ⟨_, List.getElem?_eq_getElem hlt_k⟩
        have hy0 := flat_take (enc := tbB) h_t
        have hle2 := flat_le (enc := tbB) (l := x) (i := k + 1)
        rw [hy0, List.length_append] at hle2
        have htm := hmx.2 t (List.mem_of_getElem? h_t)
        have mt := MayT.of htm
        obtain ⟨md, mi⟩ := MayT.dys htm
        have htl : (tbB t).length = (numB t.v.length).length + (t.at_.flatMap dyB).length + (t.v.flatMap ivB).length := by unfold tbB; simp only [List.length_append]; omega
        have ht1 := mt.few
        have ht2 := mt.len
        refine sat_idx (A := A_L3) (c := c_L3) (kk := .i64) (k) (by kernel_rfl) (by kernel_rfl) (hlt_k) F_L3.addr fun g4 o4 e4 => ?_
        refine Sx.sat_m ?_
        refine sat_el F_L3 e4 h_t rfl (by kernel_rfl) (by kernel_rfl) (by kernel_rfl) ?_
        rintro _ ⟨A_t, _, c_t, B_t, _, d_t, rfl, F_t1, F_t2⟩
        obtain rfl := F_t1.len
        obtain rfl := F_t2.len
        clear F_L3
        refine sat_chkB (by kernel_rfl) ?_
        refine sat_prim (v := .int .i64 ((t.v.length : Nat) : Int)) (by kernel_rfl) ?_
        refine Sx.sat_fread (numB t.v.length) #[.int .i64 ((t.v.length : Nat) : Int)] (by kernel_rfl) (fun w1 h1 => fnum_any t.v.length (by omega) _) fun A23 c23 w23 h23 F23 => ?_
        replace r_r1 := h23.rdD r_r1
        replace r_r2 := h23.rdD r_r2
        replace F_r3 := F_r3.mv h23.mv
        replace F_r4 := F_r4.mv h23.mv
        replace F_t1 := F_t1.mv h23.mv
        replace F_t2 := F_t2.mv h23.mv
        replace GKx22 := GKx22.le h23
        clear h23
        refine Sx.sat_fapp fW GKx22 F23 (by kernel_rfl) (by kernel_rfl) (by simp only [List.length_append] at *; unfold MX; omega) fun A_H1 c_H1 w24 h24 H1 => ?_
        replace r_r1 := h24.rdD r_r1
        replace r_r2 := h24.rdD r_r2
        replace F_r3 := F_r3.mv h24.mv
        replace F_r4 := F_r4.mv h24.mv
        replace F_t1 := F_t1.mv h24.mv
        replace F_t2 := F_t2.mv h24.mv
        clear h24 F23 GKx22
        refine sat_loop (fun Kn vs W => ∃ (u : Nat) (A : Option Addr) (c : Nat), vs = [.int .i64 ((u : Nat) : Int), .slice A (S ++ (r.sigs.take a).flatMap (rowB tbB) ++ numB x.length ++ (x.take k).flatMap tbB ++ numB t.v.length ++ (t.at_.take u).flatMap dyB).length c] ∧ Kn = t.at_.length - u ∧ u ≤ t.at_.length ∧ Sx.Gr Sx.kB (Sx.wfr w []) 5 W (.slice A (S ++ (r.sigs.take a).flatMap (rowB tbB) ++ numB x.length ++ (x.take k).flatMap tbB ++ numB t.v.length ++ (t.at_.take u).flatMap dyB).length c) (S ++ (r.sigs.take a).flatMap (rowB tbB) ++ numB x.length ++ (x.take k).flatMap tbB ++ numB t.v.length ++ (t.at_.take u).flatMap dyB)) [.int .i64 0, .slice A_H1 (S ++ (r.sigs.take a).flatMap (rowB tbB) ++ numB x.length ++ (x.take k).flatMap tbB ++ numB t.v.length).length c_H1] (by kernel_rfl) (fun w1 h1 => ⟨_, 0, A_H1, c_H1, by simp, rfl, by omega, by simpa using H1.le h1⟩) ?_
        clear H1
        rintro Kn vs w25 h25 ⟨u, A_GUx25, c_GUx25, rfl, rfl, h_u, GUx25⟩
        replace r_r1 := h25.rdD r_r1
        replace r_r2 := h25.rdD r_r2
        replace F_r3 := F_r3.mv h25.mv
        replace F_r4 := F_r4.mv h25.mv
        replace F_t1 := F_t1.mv h25.mv
        replace F_t2 := F_t2.mv h25.mv
        clear h25
        refine sat_prim (v := .int .i64 ((t.at_.length : Nat) : Int)) (by kernel_rfl) ?_
        refine sat_prim (v := .bool (decide (((u : Nat) : Int) < ((t.at_.length : Nat) : Int)))) (by kernel_rfl) ?_
        by_cases hlt_u : u < t.at_.length
        · refine sat_trueP (b := decide (((u : Nat) : Int) < ((t.at_.length : Nat) : Int))) (by kernel_rfl) (decide_eq_true (by omega)) ?_
          obtain ⟨d, h_d⟩ : ∃ x_, t.at_[u]? = some x_ := ⟨_, List.getElem?_eq_getElem hlt_u⟩
          have hd0 := flat_take (enc := dyB) h_d
          have hle3 := flat_le (enc := dyB) (l := t.at_) (i := u + 1)
          rw [hd0, List.length_append] at hle3
          refine sat_idx (A := A_t) (c := c_t) (kk := .i64) (u) (by kernel_rfl) (by kernel_rfl) (hlt_u) F_t1.addr fun g5 o5 e5 => ?_
          refine Sx.sat_m ?_
          refine sat_el F_t1 e5 h_d rfl (by kernel_rfl) (by kernel_rfl) (by kernel_rfl) ?_
          rintro _ ⟨A_d, n_d, c_d, rfl, r_d⟩
          refine Sx.sat_fread (dyB d) #[.agg #[.bool d.neg, .slice A_d n_d c_d, .int .i64 d.e]] (by kernel_rfl) (fun w1 h1 => fdy_any _ d _ (h1.rdD r_d) (md d (List.mem_of_getElem? h_d))) fun A26 c26 w26 h26 F26 => ?_
          replace r_r1 := h26.rdD r_r1
          replace r_r2 := h26.rdD r_r2
          replace F_r3 := F_r3.mv h26.mv
          replace F_r4 := F_r4.mv h26.mv
          replace F_t1 := F_t1.mv h26.mv
          replace F_t2 := F_t2.mv h26.mv
          replace r_d := h26.rdD r_d
          replace GUx25 := GUx25.le h26
          clear h26
          refine Sx.sat_fapp fW GUx25 F26 (by kernel_rfl) (by kernel_rfl) (by simp only [List.length_append] at *; unfold MX; omega) fun A_H2 c_H2 w27 h27 H2 => ?_
          replace r_r1 := h27.rdD r_r1
          replace r_r2 := h27.rdD r_r2
          replace F_r3 := F_r3.mv h27.mv
          replace F_r4 := F_r4.mv h27.mv
          replace F_t1 := F_t1.mv h27.mv
          replace F_t2 := F_t2.mv h27.mv
          replace r_d := h27.rdD r_d
          clear h27 F26 GUx25
          refine sat_prim (v := .int .i64 ((u + 1 : Nat) : Int)) (Eq.trans (b := some (.int .i64 (IntKind.i64.wrap (((u : Nat) : Int) + 1)))) (by kernel_rfl) (sml (by omega) (by omega))) ?_
          have hnx : S ++ (r.sigs.take a).flatMap (rowB tbB) ++ numB x.length ++ (x.take k).flatMap tbB ++ numB t.v.length ++ (t.at_.take (u + 1)).flatMap dyB = S ++ (r.sigs.take a).flatMap (rowB tbB) ++ numB x.length ++ (x.take k).flatMap tbB ++ numB t.v.length ++ (t.at_.take u).flatMap dyB ++ dyB d := by rw [hd0, ← List.append_assoc]
          rw [← hnx] at H2
          exact sat_back [.int .i64 ((u + 1 : Nat) : Int), .slice A_H2 (S ++ (r.sigs.take a).flatMap (rowB tbB) ++ numB x.length ++ (x.take k).flatMap tbB ++ numB t.v.length ++ (t.at_.take u).flatMap dyB ++ dyB d).length c_H2] (by kernel_rfl) fun w9 h9 => ⟨_, by omega, u + 1, A_H2, c_H2, by rw [← hnx], rfl, by omega, H2.le h9⟩
        · refine sat_falseP (b := decide (((u : Nat) : Int) < ((t.at_.length : Nat) : Int))) (by kernel_rfl) (decide_eq_false (by omega)) ?_
          have hfu : S ++ (r.sigs.take a).flatMap (rowB tbB) ++ numB x.length ++ (x.take k).flatMap tbB ++ numB t.v.length ++ (t.at_.take u).flatMap dyB = S ++ (r.sigs.take a).flatMap (rowB tbB) ++ numB x.length ++ (x.take k).flatMap tbB ++ numB t.v.length ++ t.at_.flatMap dyB := by rw [List.take_of_length_le (show t.at_.length ≤ u by omega)]
          rw [hfu] at GUx25 ⊢
          refine sat_loop (fun Kn vs W => ∃ (v : Nat) (A : Option Addr) (c : Nat), vs = [.int .i64 ((v : Nat) : Int), .slice A (S ++ (r.sigs.take a).flatMap (rowB tbB) ++ numB x.length ++ (x.take k).flatMap tbB ++ numB t.v.length ++ t.at_.flatMap dyB ++ (t.v.take v).flatMap ivB).length c] ∧ Kn = t.v.length - v ∧ v ≤ t.v.length ∧ Sx.Gr Sx.kB (Sx.wfr w []) 5 W (.slice A (S ++ (r.sigs.take a).flatMap (rowB tbB) ++ numB x.length ++ (x.take k).flatMap tbB ++ numB t.v.length ++ t.at_.flatMap dyB ++ (t.v.take v).flatMap ivB).length c) (S ++ (r.sigs.take a).flatMap (rowB tbB) ++ numB x.length ++ (x.take k).flatMap tbB ++ numB t.v.length ++ t.at_.flatMap dyB ++ (t.v.take v).flatMap ivB)) [.int .i64 0, .slice A_GUx25 (S ++ (r.sigs.take a).flatMap (rowB tbB) ++ numB x.length ++ (x.take k).flatMap tbB ++ numB t.v.length ++ t.at_.flatMap dyB).length c_GUx25] (by kernel_rfl) (fun w1 h1 => ⟨_, 0, A_GUx25, c_GUx25, by simp, rfl, by omega, by simpa using GUx25.le h1⟩) ?_
          clear GUx25
          rintro Kn vs w28 h28 ⟨v, A_GVx28, c_GVx28, rfl, rfl, h_v, GVx28⟩
          replace r_r1 := h28.rdD r_r1
          replace r_r2 := h28.rdD r_r2
          replace F_r3 := F_r3.mv h28.mv
          replace F_r4 := F_r4.mv h28.mv
          replace F_t1 := F_t1.mv h28.mv
          replace F_t2 := F_t2.mv h28.mv
          clear h28
          refine sat_prim (v := .int .i64 ((t.v.length : Nat) : Int)) (by kernel_rfl) ?_
          refine sat_prim (v := .bool (decide (((v : Nat) : Int) < ((t.v.length : Nat) : Int)))) (by kernel_rfl) ?_
          by_cases hlt_v : v < t.v.length
          · refine sat_trueP (b := decide (((v : Nat) : Int) < ((t.v.length : Nat) : Int))) (by kernel_rfl) (decide_eq_true (by omega)) ?_
            obtain ⟨y, h_y⟩ : ∃ x_, t.v[v]? = some x_ := ⟨_, List.getElem?_eq_getElem hlt_v⟩
            have hd0 := flat_take (enc := ivB) h_y
            have hle3 := flat_le (enc := ivB) (l := t.v) (i := v + 1)
            rw [hd0, List.length_append] at hle3
            refine sat_idx (A := B_t) (c := d_t) (kk := .i64) (v) (by kernel_rfl) (by kernel_rfl) (hlt_v) F_t2.addr fun g6 o6 e6 => ?_
            refine Sx.sat_m ?_
            refine sat_el F_t2 e6 h_y rfl (by kernel_rfl) (by kernel_rfl) (by kernel_rfl) ?_
            rintro _ ⟨A_y, n_y, c_y, B_y, m_y, k_y, rfl, r_yl, r_yh⟩
            refine Sx.sat_fread (ivB y) #[.agg #[.bool y.lo.neg, .slice A_y n_y c_y, .int .i64 y.lo.e, .bool y.hi.neg, .slice B_y m_y k_y, .int .i64 y.hi.e]] (by kernel_rfl) (fun w1 h1 => fiv_any _ y _ (mkI (h1.rdD r_yl) (h1.rdD r_yh)) (mi y (List.mem_of_getElem? h_y))) fun A29 c29 w29 h29 F29 => ?_
            replace r_r1 := h29.rdD r_r1
            replace r_r2 := h29.rdD r_r2
            replace F_r3 := F_r3.mv h29.mv
            replace F_r4 := F_r4.mv h29.mv
            replace F_t1 := F_t1.mv h29.mv
            replace F_t2 := F_t2.mv h29.mv
            replace r_yl := h29.rdD r_yl
            replace r_yh := h29.rdD r_yh
            replace GVx28 := GVx28.le h29
            clear h29
            refine Sx.sat_fapp fW GVx28 F29 (by kernel_rfl) (by kernel_rfl) (by simp only [List.length_append] at *; unfold MX; omega) fun A_H3 c_H3 w30 h30 H3 => ?_
            replace r_r1 := h30.rdD r_r1
            replace r_r2 := h30.rdD r_r2
            replace F_r3 := F_r3.mv h30.mv
            replace F_r4 := F_r4.mv h30.mv
            replace F_t1 := F_t1.mv h30.mv
            replace F_t2 := F_t2.mv h30.mv
            replace r_yl := h30.rdD r_yl
            replace r_yh := h30.rdD r_yh
            clear h30 F29 GVx28
            refine sat_prim (v := .int .i64 ((v + 1 : Nat) : Int)) (Eq.trans (b := some (.int .i64 (IntKind.i64.wrap (((v : Nat) : Int) + 1)))) (by kernel_rfl) (sml (by omega) (by omega))) ?_
            have hnx : S ++ (r.sigs.take a).flatMap (rowB tbB) ++ numB x.length ++ (x.take k).flatMap tbB ++ numB t.v.length ++ t.at_.flatMap dyB ++ (t.v.take (v + 1)).flatMap ivB = S ++ (r.sigs.take a).flatMap (rowB tbB) ++ numB x.length ++ (x.take k).flatMap tbB ++ numB t.v.length ++ t.at_.flatMap dyB ++ (t.v.take v).flatMap ivB ++ ivB y := by rw [hd0, ← List.append_assoc]
            rw [← hnx] at H3
            exact sat_back [.int .i64 ((v + 1 : Nat) : Int), .slice A_H3 (S ++ (r.sigs.take a).flatMap (rowB tbB) ++ numB x.length ++ (x.take k).flatMap tbB ++ numB t.v.length ++ t.at_.flatMap dyB ++ (t.v.take v).flatMap ivB ++ ivB y).length c_H3] (by kernel_rfl) fun w9 h9 => ⟨_, by omega, v + 1, A_H3, c_H3, by rw [← hnx], rfl, by omega, H3.le h9⟩
          · refine sat_falseP (b := decide (((v : Nat) : Int) < ((t.v.length : Nat) : Int))) (by kernel_rfl) (decide_eq_false (by omega)) ?_
            refine sat_prim (v := .int .i64 ((k + 1 : Nat) : Int)) (Eq.trans (b := some (.int .i64 (IntKind.i64.wrap (((k : Nat) : Int) + 1)))) (by kernel_rfl) (sml (by omega) (by omega))) ?_
            have hnx : S ++ (r.sigs.take a).flatMap (rowB tbB) ++ numB x.length ++ (x.take (k + 1)).flatMap tbB = S ++ (r.sigs.take a).flatMap (rowB tbB) ++ numB x.length ++ (x.take k).flatMap tbB ++ numB t.v.length ++ t.at_.flatMap dyB ++ (t.v.take v).flatMap ivB := by rw [hy0, List.take_of_length_le (show t.v.length ≤ v by omega)]; unfold tbB; simp only [List.append_assoc]
            rw [← hnx] at GVx28
            exact Sx.sat_backP (d := 1) (d' := 2) rfl [.int .i64 ((k + 1 : Nat) : Int), .slice A_GVx28 (S ++ (r.sigs.take a).flatMap (rowB tbB) ++ numB x.length ++ (x.take k).flatMap tbB ++ numB t.v.length ++ t.at_.flatMap dyB ++ (t.v.take v).flatMap ivB).length c_GVx28] (by kernel_rfl) fun w9 h9 => ⟨_, by omega, k + 1, A_GVx28, c_GVx28, by rw [← hnx], rfl, by omega, GVx28.le h9⟩
      · refine sat_falseP (b := decide (((k : Nat) : Int) < ((x.length : Nat) : Int))) (by kernel_rfl) (decide_eq_false (by omega)) ?_
        clear F_L2
        refine sat_prim (v := .int .i64 ((a + 1 : Nat) : Int)) (Eq.trans (b := some (.int .i64 (IntKind.i64.wrap (((a : Nat) : Int) + 1)))) (by kernel_rfl) (sml (by omega) (by omega))) ?_
        have hnx : S ++ (r.sigs.take (a + 1)).flatMap (rowB tbB) = S ++ (r.sigs.take a).flatMap (rowB tbB) ++ numB x.length ++ (x.take k).flatMap tbB := by rw [hx0, List.take_of_length_le (show x.length ≤ k by omega)]; unfold rowB; simp only [List.append_assoc]
        rw [← hnx] at GKx22
        exact Sx.sat_backO (d := 0) (d' := 1) rfl [.int .i64 ((a + 1 : Nat) : Int), .slice A_GKx22 (S ++ (r.sigs.take a).flatMap (rowB tbB) ++ numB x.length ++ (x.take k).flatMap tbB).length c_GKx22] (by kernel_rfl) fun w9 h9 => ⟨_, by omega, a + 1, A_GKx22, c_GKx22, by rw [← hnx], rfl, by omega, GKx22.le h9⟩
    · refine sat_falseP (b := decide (((a : Nat) : Int) < ((r.sigs.length : Nat) : Int))) (by kernel_rfl) (decide_eq_false (by omega)) ?_
      have hfin : recB r = S ++ (r.sigs.take a).flatMap (rowB tbB) := by rw [List.take_of_length_le (show r.sigs.length ≤ a by omega), hrec]
      exact sat_ret (.slice A_GAx19 (S ++ (r.sigs.take a).flatMap (rowB tbB)).length c_GAx19) (by kernel_rfl) fun w9 h9 => by rw [hfin]; exact (GAx19.le h9).frb h9.wf

end Go.Proofs.Ytpkfjfpknbhekaa
namespace Go.Proofs.Ytpkfjfpknbhekaa
open Go.RowKit Pl
def qnumF (most : Nat) : Nat → Nat → List Nat → Option (Nat × List Nat)
  | _, _, [] => none
  | n, j, c :: b => bif decide (most < n + c % 128 * 2 ^ (7 * j)) || (decide (5 < j) || (decide (c = 0) && decide (0 < j))) then none else bif decide (c < 128) then some (n + c % 128 * 2 ^ (7 * j), b) else qnumF most (n + c % 128 * 2 ^ (7 * j)) (j + 1) b
def qnum (most : Nat) (b : List Nat) : Option (Nat × List Nat) := qnumF most 0 0 b
def qdyT (m : List Nat) (c e : Nat) (b : List Nat) : Option (Dy × List Nat) := bif decide (1 < c) || !(mayD ⟨c == 1, m, expo e⟩) then none else some (⟨c == 1, m, expo e⟩, b)
def qdy (b : List Nat) : Option (Dy × List Nat) := andP (qnum 64 b) fun n b1 => andP (prep plimb n [] b1) fun m b2 => andP (pbyte b2) fun c b3 => andP (qnum 4194304 b3) fun e b4 => qdyT m c e b4
def qiv (b : List Nat) : Option (Iv × List Nat) := andP (qdy b) fun x b1 => andP (qdy b1) fun y b2 => some (⟨x, y⟩, b2)
def qtb (b : List Nat) : Option (Tb × List Nat) := andP (qnum 256 b) fun n b1 => andP (prep qdy (n + 1) [] b1) fun p b2 => andP (prep qiv n [] b2) fun q b3 => some (⟨p, q⟩, b3)
def qrow {α : Type} (most : Nat) (p : List Nat → Option (α × List Nat)) (b : List Nat) : Option (List α × List Nat) := andP (qnum most b) fun n b1 => prep p n [] b1
def qrec (b : List Nat) : Option (Rec × List Nat) := andP (qnum 200 b) fun k b1 => andP (qnum 1073741824 b1) fun e b2 => andP (qnum 200 b2) fun c b3 => andP (qdy b3) fun t b4 => andP (qdy b4) fun h b5 =>
  andP (qrow 16 (qrow 64 qiv) b5) fun x b6 => andP (qrow 16 (qrow 64 qtb) b6) fun s b7 => some (⟨(k : Int), (e : Int), (c : Int), t, h, x, s⟩, b7)
def getT (x : Rec) (t : List Nat) : Rec × Int := bif decide (0 < t.length) || !(mayR x) then (zeroR, 9) else (x, 0)
def getQ (b : List Nat) : Rec × Int := match qrec b with
  | some (x, t) => getT x t
  | none => (zeroR, 9)
/-! What is put is read back. -/
theorem qnumF_back (most : Nat) : ∀ (k n j q : Nat) (rest : List Nat), q ≤ k → n + q * 2 ^ (7 * j) ≤ most → j ≤ 5 → q < 128 ^ (6 - j) → (0 < j → q ≠ 0) → qnumF most n j (numB q ++ rest) = some (n + q * 2 ^ (7 * j), rest)
  | k, n, j, q, rest, hk, hm, hj, hq, h0 => by
    by_cases h : q < 128
    · rw [numB_lo h]
      show (bif decide (most < n + q % 128 * 2 ^ (7 * j)) || (decide (5 < j) || (decide (q = 0) && decide (0 < j))) then none else bif decide (q < 128) then some (n + q % 128 * 2 ^ (7 * j), rest) else _) = _
      rw [Nat.mod_eq_of_lt h, decide_eq_false (by omega), decide_eq_false (by omega), decide_eq_true h]
      have hz : (decide (q = 0) && decide (0 < j)) = false := by
        rw [Bool.and_eq_false_iff]
        by_cases e : 0 < j
        · exact .inl (decide_eq_false (h0 e))
        · exact .inr (decide_eq_false e)
      rw [hz]
      rfl
    · rw [numB_hi h]
      show (bif decide (most < n + (q % 128 + 128) % 128 * 2 ^ (7 * j)) || (decide (5 < j) || (decide (q % 128 + 128 = 0) && decide (0 < j))) then none else bif decide (q % 128 + 128 < 128) then _ else qnumF most (n + (q % 128 + 128) % 128 * 2 ^ (7 * j)) (j + 1) (numB (q / 128) ++ rest)) = _
      have e1 : (q % 128 + 128) % 128 = q % 128 := by omega
      have e2 : q % 128 * 2 ^ (7 * j) + q / 128 * 2 ^ (7 * (j + 1)) = q * 2 ^ (7 * j) := by
        rw [show 2 ^ (7 * (j + 1)) = 128 * 2 ^ (7 * j) by rw [show 7 * (j + 1) = 7 + 7 * j by omega, Nat.pow_add], ← Nat.mul_assoc, ← Nat.add_mul]
        congr 1
        omega
      have hj6 : j < 5 := by
        rcases Nat.lt_or_ge j 5 with e | e
        · exact e
        · obtain rfl : j = 5 := by omega
          simp at hq
          omega
      rw [e1, decide_eq_false (by have : q % 128 * 2 ^ (7 * j) ≤ q * 2 ^ (7 * j) := Nat.mul_le_mul_right _ (Nat.mod_le ..); omega), decide_eq_false (by omega), decide_eq_false (show ¬ q % 128 + 128 = 0 by omega), decide_eq_false (show ¬ q % 128 + 128 < 128 by omega)]
      show qnumF most (n + q % 128 * 2 ^ (7 * j)) (j + 1) (numB (q / 128) ++ rest) = _
      cases k with
      | zero => omega
      | succ k =>
        rw [qnumF_back most k (n + q % 128 * 2 ^ (7 * j)) (j + 1) (q / 128) rest (by omega) (by rw [Nat.add_assoc, e2]; exact hm) (by omega) (by
          rw [Nat.div_lt_iff_lt_mul (by omega), ← Nat.pow_succ, show (6 - (j + 1)).succ = 6 - j by omega]; exact hq) (fun _ => by omega), Nat.add_assoc, e2]
theorem qnum_back {most q : Nat} {rest : List Nat} (h : q ≤ most) (hq : q < 4398046511104) : qnum most (numB q ++ rest) = some (q, rest) := by
  unfold qnum
  rw [qnumF_back most q 0 0 q rest (Nat.le_refl _) (by omega) (by omega) (by simpa using hq) (fun h => absurd h (Nat.lt_irrefl _))]
  simp
theorem qrow_back {α : Type} {most : Nat} {p : List Nat → Option (α × List Nat)} {enc : α → List Nat} {l : List α} {rest : List Nat} (hl : l.length ≤ most) (h9 : l.length < 4398046511104) (h : ∀ x ∈ l, ∀ r, p (enc x ++ r) = some (x, r)) : qrow most p (rowB enc l ++ rest) = some (l, rest) := by
  unfold qrow rowB
  rw [List.append_assoc, andP_some (qnum_back hl h9), prep_back h]
  rfl
theorem qdyT_may {d : Dy} (h : mayD d = true) {c e : Nat} (hc : c ≤ 1) (hb : (c == 1) = d.neg) (he : expo e = d.e) (b : List Nat) : qdyT d.m c e b = some (d, b) := by
  unfold qdyT
  rw [hb, he, h, decide_eq_false (by omega)]
  rfl
theorem qdy_back {d : Dy} {rest : List Nat} (h : mayD d = true) (hl : Lim BB d.m) : qdy (dyB d ++ rest) = some (d, rest) := by
  obtain ⟨_, h1, h2, h3⟩ := mayD_limbs h
  unfold qdy dyB
  rw [List.append_assoc, List.append_assoc, List.append_assoc, andP_some (qnum_back h1 (by omega)), andP_some (prep_back (enc := limbB) fun x hx r => plimb_back (hl x hx))]
  have hb : ((bif d.neg then 1 else 0 : Nat) == 1) = d.neg := by cases d.neg <;> rfl
  have hc : (bif d.neg then 1 else 0 : Nat) ≤ 1 := by cases d.neg <;> decide
  show andP (some ((bif d.neg then 1 else 0 : Nat), _)) _ = _
  rw [andP_some rfl]
  cases he : decide (d.e < 0)
  · have h0 := of_decide_eq_false he
    rw [cond_false]
    show andP (qnum 4194304 (numB (2 * d.e).toNat ++ rest)) _ = _
    rw [andP_some (qnum_back (by omega) (by omega))]
    exact qdyT_may h hc hb (expo_pos h0) rest
  · have h0 := of_decide_eq_true he
    rw [cond_true]
    show andP (qnum 4194304 (numB (-2 * d.e - 1).toNat ++ rest)) _ = _
    rw [andP_some (qnum_back (by omega) (by omega))]
    exact qdyT_may h hc hb (expo_neg h0) rest
theorem qiv_back {a : Iv} {rest : List Nat} (h : mayD a.lo = true ∧ mayD a.hi = true) (hl : LimI a) : qiv (ivB a ++ rest) = some (a, rest) := by
  unfold qiv ivB
  rw [List.append_assoc, andP_some (qdy_back h.1 hl.1), andP_some (qdy_back h.2 hl.2)]
theorem qtb_back {t : Tb} {rest : List Nat} (h : mayT t = true) (hl : LimT' t) : qtb (tbB t ++ rest) = some (t, rest) := by
  have m := MayT.of h
  obtain ⟨h1, h2⟩ := MayT.dys h
  unfold qtb tbB
  rw [List.append_assoc, List.append_assoc, andP_some (qnum_back m.few (by have := m.few; omega)), ← m.len, andP_some (prep_back (enc := dyB) fun x hx r => qdy_back (h1 x hx) (hl.1 x hx)), andP_some (prep_back (enc := ivB) fun x hx r => qiv_back (h2 x hx) (hl.2 x hx))]
  rfl
theorem qrec_back {r : Rec} {rest : List Nat} (h : mayR r = true) (hl : LimR r) : qrec (recB r ++ rest) = some (r, rest) := by
  have m := MayR.of h
  unfold qrec recB
  have := m.k1
  have := m.k3
  have := m.e0
  have := m.e1
  have := m.c0
  have := m.c1
  rw [List.append_assoc, List.append_assoc, List.append_assoc, List.append_assoc, List.append_assoc, List.append_assoc, andP_some (qnum_back (by omega) (by omega)), andP_some (qnum_back (by omega) (by omega)), andP_some (qnum_back (by omega) (by omega)), andP_some (qdy_back m.t hl.t), andP_some (qdy_back m.h hl.h),
    andP_some (qrow_back m.nb (by have := m.nb; omega) fun l hx r => qrow_back (m.bx l hx).1 (by have := (m.bx l hx).1; omega) fun a ha r => qiv_back (mayI_dys ((m.bx l hx).2 a ha)) (hl.bx l hx a ha)),
    andP_some (qrow_back m.ns (by have := m.ns; omega) fun l hx r => qrow_back (m.sg l hx).1 (by have := (m.sg l hx).1; omega) fun a ha r => qtb_back ((m.sg l hx).2 a ha) (hl.sg l hx a ha)),
    Int.toNat_of_nonneg (by omega), Int.toNat_of_nonneg (by omega), Int.toNat_of_nonneg (by omega)]
/-! What is read is what is put. -/
def Inv {α : Type} (p : List Nat → Option (α × List Nat)) (enc : α → List Nat) (P : α → Prop) : Prop := ∀ b x t, Byt b → p b = some (x, t) → b = enc x ++ t ∧ P x ∧ Byt t
theorem Byt.right {a b : List Nat} (h : Byt (a ++ b)) : Byt b := fun y hy => h y (List.mem_append_right _ hy)
theorem qnumF_inv (most : Nat) : ∀ (b : List Nat) (n j v : Nat) (t : List Nat), Byt b → qnumF most n j b = some (v, t) → ∃ q, v = n + q * 2 ^ (7 * j) ∧ b = numB q ++ t ∧ (0 < j → q ≠ 0) ∧ v ≤ most
  | [], _, _, _, _, _, h => by cases h
  | c :: b, n, j, v, t, hb, h => by
    have hc : c < 256 := hb _ (List.mem_cons_self ..)
    have h : (bif decide (most < n + c % 128 * 2 ^ (7 * j)) || (decide (5 < j) || (decide (c = 0) && decide (0 < j))) then none else bif decide (c < 128) then some (n + c % 128 * 2 ^ (7 * j), b) else qnumF most (n + c % 128 * 2 ^ (7 * j)) (j + 1) b) = some (v, t) := h
    cases h1 : decide (most < n + c % 128 * 2 ^ (7 * j)) || (decide (5 < j) || (decide (c = 0) && decide (0 < j)))
    · rw [h1, cond_false] at h
      rw [Bool.or_eq_false_iff, Bool.or_eq_false_iff] at h1
      have hm := of_decide_eq_false h1.1
      cases h2 : decide (c < 128)
      · rw [h2, cond_false] at h
        have h2 := of_decide_eq_false h2
        obtain ⟨q, rfl, rfl, h4, h5⟩ := qnumF_inv most b _ _ v t hb.tail h
        have hq := h4 (by omega)
        refine ⟨c % 128 + 128 * q, ?_, ?_, fun _ => by omega, h5⟩
        · rw [show 7 * (j + 1) = 7 + 7 * j by omega, Nat.pow_add, Nat.add_mul, Nat.add_assoc, ← Nat.mul_assoc, Nat.mul_comm q (2 ^ 7)]
        · rw [numB_hi (n := c % 128 + 128 * q) (by omega), show (c % 128 + 128 * q) % 128 + 128 = c by omega, show (c % 128 + 128 * q) / 128 = q by omega]
          rfl
      · rw [h2, cond_true] at h
        have h2 := of_decide_eq_true h2
        injection h with h
        injection h with h3 h4
        subst h3 h4
        refine ⟨c, by rw [Nat.mod_eq_of_lt h2], by rw [numB_lo h2]; rfl, fun hj e => ?_, by omega⟩
        have h5 := h1.2.2
        rw [decide_eq_true e, decide_eq_true hj] at h5
        cases h5
    · rw [h1] at h
      cases h
theorem qnum_inv (most : Nat) : Inv (qnum most) numB (fun n => n ≤ most) := fun b n t hb h => by
  obtain ⟨q, h1, rfl, _, h3⟩ := qnumF_inv most b 0 0 n t hb h
  obtain rfl : n = q := by simpa using h1
  exact ⟨rfl, h3, hb.right⟩
theorem plimbF_inv : ∀ (k m : Nat) (b : List Nat) (x : Nat) (t : List Nat), k ≤ 8 → m < 256 ^ (8 - k) → Byt b → plimbF k m b = some (x, t) → x % 256 ^ (8 - k) = m ∧ b = ((List.range 8).map fun k => x / 256 ^ k % 256).drop (8 - k) ++ t
  | 0, m, b, x, t, _, hm, hb, h => by
    injection h with h
    injection h with h1 h2
    subst h1 h2
    exact ⟨Nat.mod_eq_of_lt hm, rfl⟩
  | _ + 1, _, [], _, _, _, _, _, h => by cases h
  | k + 1, m, c :: b, x, t, hk, hm, hb, h => by
    have hc : c < 256 := hb _ (List.mem_cons_self ..)
    have hs := lt_step (x := c) hm hc
    obtain ⟨p, hp⟩ : ∃ p, 8 - (k + 1) = p := ⟨_, rfl⟩
    rw [hp] at hm hs
    have h : plimbF k (m + c * 256 ^ (7 - k)) b = some (x, t) := h
    rw [show 7 - k = p by omega] at h
    obtain ⟨h1, h2⟩ := plimbF_inv k (m + c * 256 ^ p) b x t (by omega) (by rw [show 8 - k = p + 1 by omega]; exact hs) hb.tail h
    rw [show 8 - k = p + 1 by omega] at h1 h2
    have e0 : x % 256 ^ p = m := by
      have e1 : x % 256 ^ (p + 1) % 256 ^ p = x % 256 ^ p := Nat.mod_mod_of_dvd x ⟨256, by rw [Nat.pow_succ]⟩
      rw [← e1, h1, Nat.add_mul_mod_self_right, Nat.mod_eq_of_lt hm]
    have e2 : x / 256 ^ p % 256 = c := by
      have e3 := h1
      rw [Nat.pow_succ, Nat.mod_mul, e0, Nat.mul_comm c] at e3
      exact Nat.eq_of_mul_eq_mul_left (Nat.pow_pos (by omega)) (Nat.add_left_cancel e3)
    rw [hp]
    refine ⟨e0, ?_⟩
    have h3 : ((List.range 8).map fun k => x / 256 ^ k % 256)[p]? = some (x / 256 ^ p % 256) := by
      rw [List.getElem?_map, List.getElem?_range (by omega)]; rfl
    rw [drop_cons h3, h2, e2]
    rfl
theorem plimb_inv : Inv plimb limbB (fun x => x < BB) := fun b x t hb h => by
  obtain ⟨g1, g2⟩ := good_plimb b x t hb h
  exact ⟨(plimbF_inv 8 0 b x t (Nat.le_refl _) (by decide) hb h).2, g1, g2⟩
theorem pbyte_inv : Inv pbyte (fun c => [c]) (fun c => c < 256) := fun b x t hb h => by
  obtain ⟨g1, g2⟩ := good_pbyte b x t hb h
  refine ⟨?_, g1, g2⟩
  cases b with
  | nil => cases h
  | cons c b => cases h; rfl
theorem prep_inv {α : Type} {p : List Nat → Option (α × List Nat)} {enc : α → List Nat} {P : α → Prop} (hp : Inv p enc P) : ∀ (n : Nat) (acc : List α) (b : List Nat) (l : List α) (t : List Nat), Byt b → prep p n acc b = some (l, t) → ∃ l', l = acc ++ l' ∧ l'.length = n ∧ b = l'.flatMap enc ++ t ∧ (∀ x ∈ l', P x) ∧ Byt t
  | 0, acc, b, l, t, hb, h => by
    injection h with h
    injection h with h1 h2
    subst h1 h2
    exact ⟨[], by simp, rfl, rfl, fun _ h => (by cases h), hb⟩
  | n + 1, acc, b, l, t, hb, h => by
    obtain ⟨x, b1, h1, h2⟩ := andP_inv h
    obtain ⟨rfl, q1, q2⟩ := hp b x b1 hb h1
    obtain ⟨l', rfl, rfl, rfl, q3, q4⟩ := prep_inv hp n (acc ++ [x]) b1 l t q2 h2
    refine ⟨x :: l', by simp, rfl, by rw [List.flatMap_cons, List.append_assoc], fun y hy => ?_, q4⟩
    rcases List.mem_cons.1 hy with rfl | hy
    · exact q1
    · exact q3 y hy
theorem prep_inv0 {α : Type} {p : List Nat → Option (α × List Nat)} {enc : α → List Nat} {P : α → Prop} (hp : Inv p enc P) {n : Nat} {b : List Nat} {l : List α} {t : List Nat} (hb : Byt b) (h : prep p n [] b = some (l, t)) : n = l.length ∧ b = l.flatMap enc ++ t ∧ (∀ x ∈ l, P x) ∧ Byt t := by
  obtain ⟨l', h1, h2, h3, h4, h5⟩ := prep_inv hp n [] b l t hb h
  rw [List.nil_append] at h1
  subst h1
  exact ⟨h2.symm, h3, h4, h5⟩
theorem qrow_inv {α : Type} {most : Nat} {p : List Nat → Option (α × List Nat)} {enc : α → List Nat} {P : α → Prop} (hp : Inv p enc P) : Inv (qrow most p) (rowB enc) (fun l => ∀ x ∈ l, P x) := fun b l t hb h => by
  obtain ⟨n, b1, h1, h2⟩ := andP_inv h
  obtain ⟨rfl, _, q2⟩ := qnum_inv most b n b1 hb h1
  obtain ⟨rfl, rfl, q3, q4⟩ := prep_inv0 hp q2 h2
  refine ⟨?_, q3, q4⟩
  unfold rowB
  rw [List.append_assoc]
theorem expo_inv (e : Nat) : (bif decide (expo e < 0) then numB (-2 * expo e - 1).toNat else numB (2 * expo e).toNat) = numB e := by
  unfold expo
  cases h : decide (e % 2 = 1)
  · have h := of_decide_eq_false h
    rw [cond_false, decide_eq_false (by omega), cond_false]
    congr 1
    omega
  · have h := of_decide_eq_true h
    rw [cond_true, decide_eq_true (by omega), cond_true]
    congr 1
    omega
theorem qdy_inv : Inv qdy dyB LimD := fun b d t hb h => by
  obtain ⟨n, b1, h1, h2⟩ := andP_inv h
  obtain ⟨rfl, _, g1⟩ := qnum_inv _ b n b1 hb h1
  obtain ⟨m, b2, h3, h4⟩ := andP_inv h2
  obtain ⟨rfl, rfl, q3, g2⟩ := prep_inv0 plimb_inv g1 h3
  obtain ⟨c, b3, h5, h6⟩ := andP_inv h4
  obtain ⟨rfl, _, g3⟩ := pbyte_inv b2 c b3 g2 h5
  obtain ⟨e, b4, h7, h8⟩ := andP_inv h6
  obtain ⟨rfl, _, g4⟩ := qnum_inv _ b3 e b4 g3 h7
  unfold qdyT at h8
  cases h9 : decide (1 < c) || !(mayD ⟨c == 1, m, expo e⟩)
  · rw [h9, cond_false] at h8
    injection h8 with h8
    injection h8 with h10 h11
    subst h10 h11
    refine ⟨?_, q3, g4⟩
    have hc : c ≤ 1 := by have := of_decide_eq_false (Bool.or_eq_false_iff.1 h9).1; omega
    have hcb : (bif (c == 1) then 1 else 0 : Nat) = c := by
      rcases Nat.lt_or_ge c 1 with e | e
      · obtain rfl : c = 0 := by omega
        rfl
      · obtain rfl : c = 1 := by omega
        rfl
    unfold dyB
    simp only [expo_inv, hcb, List.append_assoc]
  · rw [h9] at h8
    cases h8
theorem qiv_inv : Inv qiv ivB LimI := fun b a t hb h => by
  obtain ⟨x, b1, h1, h2⟩ := andP_inv h
  obtain ⟨rfl, l1, g1⟩ := qdy_inv b x b1 hb h1
  obtain ⟨y, b2, h3, h4⟩ := andP_inv h2
  obtain ⟨rfl, l2, g2⟩ := qdy_inv b1 y b2 g1 h3
  injection h4 with h4
  injection h4 with h5 h6
  subst h5 h6
  refine ⟨?_, ⟨l1, l2⟩, g2⟩
  unfold ivB
  rw [List.append_assoc]
theorem qtb_inv : Inv qtb tbB LimT' := fun b a t hb h => by
  obtain ⟨n, b1, h1, h2⟩ := andP_inv h
  obtain ⟨rfl, _, g1⟩ := qnum_inv _ b n b1 hb h1
  obtain ⟨p, b2, h3, h4⟩ := andP_inv h2
  obtain ⟨hn, rfl, l2, g2⟩ := prep_inv0 qdy_inv g1 h3
  obtain ⟨q, b3, h5, h6⟩ := andP_inv h4
  obtain ⟨rfl, rfl, l3, g3⟩ := prep_inv0 qiv_inv g2 h5
  injection h6 with h6
  injection h6 with h7 h8
  subst h7 h8
  refine ⟨?_, ⟨l2, l3⟩, g3⟩
  unfold tbB
  rw [List.append_assoc, List.append_assoc]
theorem qrec_inv {b : List Nat} {r : Rec} {t : List Nat} (hb : Byt b) (h : qrec b = some (r, t)) : b = recB r ++ t ∧ LimR r := by
  obtain ⟨k, b1, h1, h2⟩ := andP_inv h
  obtain ⟨rfl, _, g1⟩ := qnum_inv _ b k b1 hb h1
  obtain ⟨e, b2, h3, h4⟩ := andP_inv h2
  obtain ⟨rfl, _, g2⟩ := qnum_inv _ b1 e b2 g1 h3
  obtain ⟨c, b3, h5, h6⟩ := andP_inv h4
  obtain ⟨rfl, _, g3⟩ := qnum_inv _ b2 c b3 g2 h5
  obtain ⟨x, b4, h7, h8⟩ := andP_inv h6
  obtain ⟨rfl, l4, g4⟩ := qdy_inv b3 x b4 g3 h7
  obtain ⟨y, b5, h9, h10⟩ := andP_inv h8
  obtain ⟨rfl, l5, g5⟩ := qdy_inv b4 y b5 g4 h9
  obtain ⟨bx, b6, h11, h12⟩ := andP_inv h10
  obtain ⟨rfl, l6, g6⟩ := qrow_inv (qrow_inv qiv_inv) b5 bx b6 g5 h11
  obtain ⟨sg, b7, h13, h14⟩ := andP_inv h12
  obtain ⟨rfl, l7, g7⟩ := qrow_inv (qrow_inv qtb_inv) b6 sg b7 g6 h13
  injection h14 with h14
  injection h14 with h15 h16
  subst h15 h16
  refine ⟨?_, ⟨l4, l5, l6, l7⟩⟩
  unfold recB
  simp only [Int.toNat_natCast, List.append_assoc]
/-- The two parsers take the same bytes for the same record. -/
theorem getS_getQ {b : List Nat} (hb : Byt b) : getQ b = getS b := by
  rcases getS_two b with e | e
  · have e2 : getS b = ((getS b).1, 0) := by rw [← e]
    obtain ⟨h1, h2, h3⟩ := getS_is hb e2
    rw [e2]
    generalize (getS b).1 = x at *
    have hq := qrec_back (rest := []) h1 h2
    rw [List.append_nil, h3] at hq
    unfold getQ
    rw [hq]
    show getT x [] = _
    unfold getT
    rw [h1]
    rfl
  · rw [e]
    unfold getQ
    cases hq : qrec b with
    | none => rfl
    | some q =>
      obtain ⟨x, t⟩ := q
      show getT x t = _
      unfold getT
      cases hc : decide (0 < t.length) || !(mayR x)
      · exfalso
        rw [Bool.or_eq_false_iff, Bool.not_eq_false'] at hc
        have ht : t = [] := List.eq_nil_of_length_eq_zero (by have := of_decide_eq_false hc.1; omega)
        subst ht
        obtain ⟨h1, h2⟩ := qrec_inv hb hq
        rw [List.append_nil] at h1
        rw [h1, getS_rec hc.2 h2] at e
        injection e with _ e
        cases e
      · rfl
end Go.Proofs.Ytpkfjfpknbhekaa
namespace Go.Proofs.Ytpkfjfpknbhekaa
open Go.RowKit Pl
open Sx (sat_call sat_chk sat_prim sat_ite sat_true sat_false sat_trueP sat_falseP sat_ret sat_row sat_callP sat_loop sat_back sat_idx sat_el sat_elf sat_elc sat_load sat_rowN sat_app sat_callB sat_alt rows_one rows_two all_nil all_cons okB okS okI)

/-- A step of a parser that may have failed already. -/
theorem bind_step {X Y : Type} {o o' : Option (List Nat)} {q : List Nat → Option (X × List Nat)} {f : X → List Nat → Option Y} {x : X} (h : o.bind q = o'.map fun b => (x, b)) : (o.bind fun b => andP (q b) f) = o'.bind (f x) := by
  cases o with
  | none =>
    cases o' with
    | none => rfl
    | some b => cases h
  | some b =>
    have h : q b = o'.map fun b => (x, b) := h
    show andP (q b) f = _
    rw [h]
    cases o' <;> rfl
theorem bind_end {X : Type} {o : Option (List Nat)} {x : X} : (o.bind fun b => some (x, b)) = o.map fun b => (x, b) := by cases o <;> rfl
theorem isNone_some {o : Option (List Nat)} (h : o.isNone = false) : ∃ b, o = some b := by
  cases o with
  | none => cases h
  | some b => exact ⟨b, rfl⟩
theorem isNone_none {o : Option (List Nat)} (h : o.isNone = true) : o = none := by
  cases o with
  | none => rfl
  | some b => cases h
namespace Sx
/-- The document's reader in memory; none: it has been told bad. -/
def RqW (ty : TypeId) (w : World) (g : Nat) (o : Option (List Nat)) : Prop := ∃ A c b, Box w g [.slice A b.length c, .bool o.isNone] ty ∧ RdN .u8 w A b.length c b ∧ Byt b ∧ ∀ b', o = some b' → b' = b
structure RqS (ty : TypeId) (w0 : Fr) (w : OW) (g : Nat) (o : Option (List Nat)) : Prop where
  bg : g ∈ w.bld
  nk : w0.nk .u8 = false
  rd : RqW ty w.toWorld g o
theorem RqW.lt {ty : TypeId} {w : World} {g : Nat} {o : Option (List Nat)} (h : RqW ty w g o) : g < w.heap.size := by
  obtain ⟨A, c, b, hB, _⟩ := h
  exact hB.lt
def RqOut {X : Type} (ty : TypeId) (w : World) (g : Nat) (p : Option (X × List Nat)) (RV : World → X → World → Value → Prop) (e : Ending) (w' : World) : Prop :=
  ∃ x o' u, p = o'.map (fun b => (x, b)) ∧ e = .returned u ∧ RV w x w' u ∧ RqW ty w' g o' ∧ BelowF (rfr nkI rfl w g) w'
theorem RqS.le {ty : TypeId} {w0 : Fr} {w w' : OW} {g : Nat} {o : Option (List Nat)} (h : RqS ty w0 w g o) (hl : Le w0 w w') : RqS ty w0 w' g o := by
  obtain ⟨A, c, b, h1, h2, h3⟩ := h.rd
  exact ⟨hl.bld g h.bg, h.nk, A, c, b, by unfold Box; rw [hl.keepB g h.bg]; exact h1, hl.rdk h.nk h2, h3⟩
theorem RqS.app {ty : TypeId} {w0 : Fr} {w w' : OW} {g : Nat} {o : Option (List Nat)} {s s' : Value} (h : RqS ty w0 w g o) (a : App w0 w w' s s') (hne : s.ownBlock ≠ some g) : RqS ty w0 w' g o := by
  obtain ⟨A, c, b, h1, h2, h3⟩ := h.rd
  exact ⟨a.bld g h.bg, h.nk, A, c, b, by unfold Box; rw [a.keepB g h.bg hne]; exact h1, a.rdk h.nk h2, h3⟩
theorem RqW.eff {ty : TypeId} {w0 : Fr} {w : OW} {w2 : World} {g : Nat} {o : Option (List Nat)} (hw : WF w0 w) (hb : BelowF w0 w.toWorld) (h : RqW ty w.toWorld g o) (hg : g ∈ w.bld) (p : BelowF (rfr nkI rfl w.toWorld g) w2) :
    Eff w0 w ⟨w2, w.own, w.bld⟩ ∧ ∀ q, q < w.heap.size → q ≠ g → w2.heap[q]? = w.heap[q]? := by
  have keep : ∀ q, q < w.heap.size → q ≠ g → w2.heap[q]? = w.heap[q]? := fun q hq hn => p.block q hq (by show q ∉ [g]; simpa using hn)
  have hsz : w.heap.size ≤ w2.heap.size := p.size
  refine ⟨⟨⟨fun {K A n c xs} hK hr => ⟨hr.len, hr.cap, hr.max, fun hn => ?_⟩, hb.trans (w1 := rfr nkI rfl w.toWorld g) p (fun q hq => by obtain rfl := List.mem_singleton.1 (show q ∈ [g] from hq); exact (hw.bld q hg).1), hsz, fun q hq h1 h2 => keep q hq (fun e => h2 (e ▸ hg)), fun _ h => h, fun _ h => .inl h, fun _ h => h, fun _ h => .inl h, hw.mono hsz⟩, fun q hq => keep q (hw.own q hq).2 (fun e => (hw.bld g hg).2.2 (e ▸ hq)), rfl⟩, keep⟩
  obtain ⟨bb, off, hA, hbl, hc⟩ := hr.at_ hn
  have hne : bb ≠ g := by
    rintro rfl
    obtain ⟨A', c', b', hB, _⟩ := h
    have h1 := hc 0 hn
    rw [hB.get] at h1
    have := List.mem_of_getElem? h1
    simp at this
  exact ⟨bb, off, hA, Nat.lt_of_lt_of_le hbl hsz, fun k hk => (World.cell?_of_block (a := ⟨bb, _, none⟩) (keep bb hbl hne)).trans (hc k hk)⟩
section
variable {w0 : Fr} {w w' : OW} {R : Value → World → Prop} {Pn : List PanicEntry → World → Prop} {Bk : Back} {ρ : List Value} {t t' : Tree} {wty : TypeId}
/-- A function of the reader's is called. -/
theorem sat_qcall {X : Type} {ty : TypeId} {f : FuncId} {args : List Tm} {sh : Sh} {g : Nat} {o : Option (List Nat)} {p : Option (X × List Nat)} {RV : World → X → World → Value → Prop} (S : RqS ty w0 w g o) (vs : Array Value) (has : (args.map (Tm.den ρ [])).toArray = vs)
    (h : ∀ w1 : OW, Le w0 w w1 → RqW ty w1.toWorld g o → Calls Try.prog f vs w1.toWorld (RqOut ty w1.toWorld g p RV))
    (k : ∀ (w1 ow : OW) x o' u, p = o'.map (fun b => (x, b)) → Le w0 w w1 → Lf w0 w ow → RV w1.toWorld x ow.toWorld u → RqS ty w0 ow g o' → Kept w ow g → Mv ow.toWorld ow.toWorld (fun q => w1.heap.size ≤ q) (fun q => w0.heap.size ≤ q ∧ NB ow q) → ∃ l, sh.val l = u ∧ l.length = sh.len ∧ satB Try.prog w0 R Pn Bk t (ρ ++ l) ow) :
    satB Try.prog w0 R Pn Bk (.call f args sh t) ρ w :=
  sat_callE vs has fun w1 h1 => (h w1 h1 (S.le h1).rd).mono fun e w2 hc => by
    have S1 := S.le h1
    obtain ⟨x, o', u, e1, rfl, e3, e4, e5⟩ := hc
    obtain ⟨hE, keep⟩ := S1.rd.eff h1.wf h1.b S1.bg e5
    have hl := h1.toLf.trans hE.toLf
    obtain ⟨l, l1, l2, l3⟩ := k w1 ⟨w2, w1.own, w1.bld⟩ x o' u e1 h1 hl e3 ⟨S1.bg, S.nk, e4⟩ (fun q hq hn => ⟨(keep q (h1.wf.bld q (h1.bld q hq)).2.1 hn).trans (h1.keepB q hq), h1.bld q hq⟩)
      (Mv.weak fun q _ hq => ⟨Nat.le_trans h1.b.size hq, (⟨fun e => by have := (h1.wf.own q e).2; omega, fun e => by have := (h1.wf.bld q e).2.1; omega⟩ : NB ⟨w2, w1.own, w1.bld⟩ q)⟩)
    exact .inl ⟨l, u, _, rfl, l1, l2, rfl, hE, fun _ => l3⟩
/-- Is it bad? -/
theorem sat_isbad {ty bt : TypeId} {g j : Nat} {o : Option (List Nat)} {p : At} (S : RqS ty w0 w g o) (hj : j = ρ.length) (hp : p.den ρ [] = .pointer (some ⟨g, 0, none⟩)) (h2 : rowB Try.prog bt = some false)
    (k : satB Try.prog w0 R Pn Bk t (ρ ++ [.pointer (some ⟨g, 0, none⟩)] ++ [.pointer (some ⟨g, 0 + 1, none⟩)] ++ [.bool o.isNone]) w) : satB Try.prog w0 R Pn Bk (.prim .nchk [p] (.prim (.fld 1) [.lf j] (.loadm bt (.lf (j + 1)) .one t))) ρ w := by
  subst hj
  obtain ⟨A, c, b, hB, _⟩ := S.rd
  refine ⟨_, show Prim.ev .nchk (denL ρ [] [p]) = some (.pointer (some ⟨g, 0, none⟩)) by simp only [denL, List.map_cons, List.map_nil, hp]; rfl, ?_⟩
  refine ⟨.pointer (some ⟨g, 0 + 1, none⟩), by simp [denL, At.den, Prim.ev], ?_⟩
  exact sat_bload (off := 0 + 1) (.bool o.isNone) hB S.bg (by simp [At.den]) rfl h2 k
/-- It is told bad. -/
theorem sat_setbad {ty bt : TypeId} {g j : Nat} {o : Option (List Nat)} {p : At} (S : RqS ty w0 w g o) (hj : j = ρ.length) (hp : p.den ρ [] = .pointer (some ⟨g, 0, none⟩)) (hty : szOf Try.prog bt = some 1)
    (k : ∀ ow, Lf w0 w ow → Kept w ow g → RqS ty w0 ow g none → satB Try.prog w0 R Pn Bk t (ρ ++ [.pointer (some ⟨g, 0, none⟩)] ++ [.pointer (some ⟨g, 0 + 1, none⟩)]) ow) : satB Try.prog w0 R Pn Bk (.prim .nchk [p] (.prim (.fld 1) [.lf j] (.fst bt (.lf (j + 1)) (.one (.bit true)) t))) ρ w := by
  subst hj
  refine ⟨_, show Prim.ev .nchk (denL ρ [] [p]) = some (.pointer (some ⟨g, 0, none⟩)) by simp only [denL, List.map_cons, List.map_nil, hp]; rfl, ?_⟩
  refine ⟨.pointer (some ⟨g, 0 + 1, none⟩), by simp [denL, At.den, Prim.ev], ?_⟩
  refine ⟨⟨g, 0 + 1, none⟩, by simp [At.den], fun w1 h1 => ?_⟩
  have S1 := S.le h1
  obtain ⟨A, c, b, hB, hR, hby, _⟩ := S1.rd
  have hst := store_ok (P := Try.prog) (off := 0 + 1) (us := [Value.bool true]) (v := .bool true) hty hB rfl rfl (by simp) (by simp [Value.oneCell'])
  have hE := Eff.setRow h1.wf h1.b hB (by
    intro v hv
    simp only [List.mem_cons, List.not_mem_nil, or_false] at hv
    rcases hv with rfl | rfl
    · exact (okS _ _ _).n w0
    · exact (okB _).n w0) S1.bg [.slice A b.length c, .bool true].toArray
  refine ⟨⟨w1.setRow g [.slice A b.length c, .bool true].toArray, w1.own, w1.bld⟩, by simpa [Tm.den, At.den] using hst, hE, ?_⟩
  exact k _ (h1.toLf.trans hE.toLf) (fun q hq hn => ⟨(setRow_other w1.toWorld g q _ hn).trans (h1.keepB q hq), h1.bld q hq⟩) ⟨S1.bg, S.nk, A, c, b, setRow_heap w1.toWorld g _ _ ty (0, 0) hB, hE.toLf.rdk S.nk hR, hby, fun b' e => (by cases e)⟩
/-- A number is appended to a row of the call's own. -/
theorem sat_qpush64 {c s : At} {k : List At} {g j : Nat} {v : Value} {l : List Nat} {o : Option (List Nat)} (x : Nat) (G : GnN w0 w v l g) (S : RqS wty w0 w g o) (hj : j = ρ.length) (hs : ∀ r, s.den (ρ ++ [r]) [] = v) (hc : c.den ρ [] = .int .u64 (x : Int)) (hk : ∀ y ∈ k, (y.den ρ []).oneCell' = true) (hlen : l.length + 1 ≤ 1000000)
    (K : ∀ r A c' ow, Lf w0 w ow → RqS wty w0 ow g o → GnN w0 ow (.slice A (l ++ [x]).length c') (l ++ [x]) g → satB Try.prog w0 R Pn Bk t (ρ ++ [r] ++ [.slice A (l ++ [x]).length c']) ow) :
    satB Try.prog w0 R Pn Bk (.row 51 [c] 1 k (.appk .u64 51 1 8 s (.lf j) t)) ρ w := by
  subst hj
  refine ⟨hk, fun w1 h1 => .inl ?_⟩
  have hcs : denL ρ [] [c] = [.int .u64 (x : Int)] := by simp [denL, hc]
  rw [hcs]
  have hB : Box (⟨w1.alloc (.cells [.int .u64 (x : Int)].toArray 51), w1.own, w1.bld⟩ : OW).toWorld w1.heap.size [.int .u64 (x : Int)] 51 := Box.new w1.toWorld [.int .u64 (x : Int)] 51
  have hL1 : Le w0 w1 ⟨w1.alloc (.cells [.int .u64 (x : Int)].toArray 51), w1.own, w1.bld⟩ := Le.of h1.wf h1.b (by go_grown)
  have hNB : NB ⟨w1.alloc (.cells [.int .u64 (x : Int)].toArray 51), w1.own, w1.bld⟩ w1.heap.size := ⟨fun e => by have := (h1.wf.own _ e).2; omega, fun e => by have := (h1.wf.bld _ e).2.1; omega⟩
  have hlt : w1.heap.size < (⟨w1.alloc (.cells [.int .u64 (x : Int)].toArray 51), w1.own, w1.bld⟩ : OW).heap.size := hB.lt
  generalize w1.heap.size = N at *
  generalize (⟨w1.alloc (.cells [.int .u64 (x : Int)].toArray 51), w1.own, w1.bld⟩ : OW) = wa at *
  have hL := h1.trans hL1
  refine ⟨G.nk, fun w2 h2 => ?_⟩
  have S2 := (S.le hL).le h2
  have G2 := (G.le hL).le h2
  have hB2 : Box w2.toWorld N [.int .u64 (x : Int)] 51 := by unfold Box; rw [h2.keep N hlt hNB.1 hNB.2]; exact hB
  rw [hs]
  have hden : (At.lf ρ.length).den (ρ ++ [Value.slice (some ⟨N, 0, none⟩) 1 1]) [] = .slice (some ⟨N, 0, none⟩) 1 1 := by simp [At.den]
  rw [hden]
  refine ⟨l.length, U .u64 l, some ⟨N, 0, none⟩, 1, 1, [.int .u64 (x : Int)], G2.row, rfl, rfl, .inl ⟨_, rfl, fun i u hu => ?_⟩, fun u hu => ?_, by unfold maxLen; omega, by omega, fun s' w3 hA hO => ?_⟩
  · rw [addr_at, Nat.zero_add]
    rw [hB2.get]
    exact hu
  · obtain rfl := List.mem_singleton.1 hu
    exact ⟨rfl, fun K n e => by injection e with e1 e2; rw [← e1]; exact G.nk⟩
  · have e : U .u64 (l ++ [x]) = U .u64 l ++ [.int .u64 (x : Int)] := by unfold U; rw [List.map_append]; rfl
    have hO' : OR w0 51 1 w3 s' (l ++ [x]).length (U .u64 (l ++ [x])) := by rw [List.length_append, e]; exact hO
    have hG : GnN w0 w3 s' (l ++ [x]) g := ⟨G.nk, hO', hA.ne S2.rd.lt G.ne⟩
    obtain ⟨A, c', rfl⟩ := hG.len
    exact K _ A c' w3 (hL.toLf.trans (h2.toLf.trans hA.toLf)) (S2.app hA G.ne) hG
/-- One element is appended to a row that the call builds. -/
theorem sat_qpush1 {α : Type} {k : Kind α} {bb : Nat} {rty e : TypeId} {sz by' : Nat} {cs kk : List At} {s : At} {j g : Nat} {v : Value} {l : List α} {o : Option (List Nat)} (x : α) (vs : List Value) (G : GrN (kF bb k) w0 e w v l g) (S : RqS rty w0 w g o) (hj : j = ρ.length) (hcs : denL ρ [] cs = vs) (hk : ∀ y ∈ kk, (y.den ρ []).oneCell' = true) (hs : ∀ r, s.den (ρ ++ [r]) [] = v) (hsz : k.sz = sz)
    (hE : ∀ w' : OW, Le w0 w w' → k.El (fun q => bb ≤ q ∧ NB w' q) w'.toWorld vs x) (h1 : l.length + 1 ≤ maxLen) (h2 : (l.length + 1) * by' ≤ 140737488355328)
    (K : ∀ r A c' ow, Lf w0 w ow → (∀ {β : Type} {k2 : Kind β} {e2 : TypeId} {s2 : Value} {l2 : List β}, GrN k2 w0 e2 w s2 l2 g → Apart v s2 → GrN k2 w0 e2 ow s2 l2 g ∧ Apart (.slice A (l ++ [x]).length c') s2) → RqS rty w0 ow g o → GrN (kF bb k) w0 e ow (.slice A (l ++ [x]).length c') (l ++ [x]) g → satB Try.prog w0 R Pn Bk t (ρ ++ [r] ++ [.slice A (l ++ [x]).length c']) ow) :
    satB Try.prog w0 R Pn Bk (.row e cs 1 kk (.app e sz by' s (.lf j) t)) ρ w := by
  subst hj hsz
  refine sat_rowN vs hcs hk fun u1 h1' B1 NB1 => ?_
  have E1 := hE _ h1'
  have S1 := S.le h1'
  have G1 := G.le h1'
  have oth1 : ∀ {β : Type} {k2 : Kind β} {e2 : TypeId} {s2 : Value} {l2 : List β}, GrN k2 w0 e2 w s2 l2 g → GrN k2 w0 e2 _ s2 l2 g := fun q => q.le h1'
  have F_R := rows_one (k := kF bb k) (x := x) B1 NB1 E1
  have hL := h1'.toLf
  refine sat_app v (.slice (some ⟨u1.heap.size, 0, none⟩) 1 1) (hs _) (by simp [At.den]) fun w6 h6 => ?_
  refine (G1.le h6).app (l' := [x]) (F_R.mv (h6.mv G.gr.pos.2.2)) ((S1.le h6).rd.lt) h1 h2 fun A c' o7 a7 G7 => ?_
  refine K _ A c' o7 ((hL.trans h6.toLf).trans a7.toLf) (fun q hd => ?_) ((S1.le h6).app a7 G.ne) G7
  have q2 := (oth1 q).le h6
  obtain ⟨r1, r2⟩ := q2.gr.other a7 hd h6.wf
  exact ⟨⟨r1, q2.ne⟩, r2⟩
end
/-- A function of the reader's. -/
theorem runQ {X : Type} {ty : TypeId} {w : World} {g : Nat} {o : Option (List Nat)} {SP : Option (X × List Nat)} {RV : World → X → World → Value → Prop} (nk : IntKind → Bool) (hni : nk .i64 = true) (hn8 : nk .u8 = false) (hW : RqW ty w g o) (hv es : List Nat) {f : FuncId} {ls : List Value} {shs : List (Bool × Nat)} {t : Tree} (ht : treeEs Try.prog f [] hv es shs = some t) (hl : ls.length = (shs.map (·.2)).sum) (h1 : (shs.all fun c => c.1 || c.2 == 1) = true)
    (hs : RqS ty (rfr nk hni w g) ⟨w, [], [g]⟩ g o → sat Try.prog (rfr nk hni w g) (fun u w' => ∃ x o', SP = o'.map (fun b => (x, b)) ∧ RV w x w' u ∧ RqW ty w' g o') (fun _ _ => False) t ls ⟨w, [], [g]⟩) : Calls Try.prog f (tupV ls shs).toArray w (RqOut ty w g SP RV) :=
  (runE (w0 := rfr nk hni w g) rfl (fun q hq => by obtain rfl := List.mem_singleton.1 (show q ∈ [g] from hq); exact hW.lt) [] hv es ht hl h1 (fun q h => by cases h) (hs ⟨List.mem_singleton.2 rfl, hn8, hW⟩)).mono fun e w' ⟨hb, h⟩ => by
    have hb' : BelowF (rfr nkI rfl w g) w' := ⟨hb.os, hb.tape, hb.output, hb.size, hb.block⟩
    rcases h with ⟨u, rfl, x, o', h1, h2, h3⟩ | ⟨c, _, hf⟩
    · exact ⟨x, o', u, h1, rfl, h2, h3, hb'⟩
    · exact hf.elim
end Sx

namespace Sx
/-- The first cell of two is put anew. -/
theorem sat_qset {w0 : Fr} {w : OW} {R : Value → World → Prop} {Pn : List PanicEntry → World → Prop} {Bk : Back} {ρ : List Value} {t : Tree} {ty t1 : TypeId} {x y : At} {p : Nat} {u u2 : Value} (v : Value) (hB : Box w.toWorld p [u, u2] t1) (hp : p ∈ w.bld) (hx : x.den ρ [] = .pointer (some ⟨p, 0 + 0, none⟩)) (hy : y.den ρ [] = v) (hu : LeafN w0 u) (hu2 : LeafN w0 u2) (h1c : v.oneCell' = true) (hc : v.cells = #[v]) (hty : szOf Try.prog ty = some 1)
    (h : ∀ ow, Lf w0 w ow → Box ow.toWorld p [v, u2] t1 → satB Try.prog w0 R Pn Bk t ρ ow) : satB Try.prog w0 R Pn Bk (.fst ty x (.one y) t) ρ w := by
  refine ⟨⟨p, 0 + 0, none⟩, hx, fun w1 h1 => ?_⟩
  have hB1 : Box w1.toWorld p [u, u2] t1 := by unfold Box; rw [h1.keepB p hp]; exact hB
  have hst := store_ok (P := Try.prog) (off := 0 + 0) (us := [v]) (v := v) hty hB1 hc rfl (by simp) (by simpa using h1c)
  have hE := Eff.setRow h1.wf h1.b hB1 (by
    intro z hz
    simp only [List.mem_cons, List.not_mem_nil, or_false] at hz
    rcases hz with rfl | rfl
    · exact hu
    · exact hu2) (h1.bld p hp) [v, u2].toArray
  refine ⟨⟨w1.setRow p [v, u2].toArray, w1.own, w1.bld⟩, ?_, hE, h _ (h1.toLf.trans hE.toLf) (setRow_heap w1.toWorld p _ _ t1 (0, 0) hB1)⟩
  simp only [Tm.den, hy]
  simpa using hst
end Sx

def tr_qbyte : Sx.Tree := .prim .nchk [.lf 0] (.prim (.fld 1) [.lf 1] (.loadm 4 (.lf 2) .one (.ite (.lf 3) (.prim .nchk [.lf 0] (.prim (.fld 1) [.lf 4] (.fst 4 (.lf 5) (.one (.bit true)) (.ret (.one (.num .i64 0)))))) (.prim .nchk [.lf 0] (.prim (.fld 0) [.lf 4] (.loadm 29 (.lf 5) .one (.prim .len [.lf 6] (.prim (.bin .eql) [.lf 7, .num .i64 0] (.ite (.lf 8) (.prim .nchk [.lf 0] (.prim (.fld 1) [.lf 9] (.fst 4 (.lf 10) (.one (.bit true)) (.ret (.one (.num .i64 0)))))) (.prim .nchk [.lf 0] (.prim (.fld 0) [.lf 9] (.loadm 29 (.lf 10) .one (.prim (.idx 1) [.lf 11, .num .i64 0] (.loadm 5 (.lf 12) .one (.prim .nchk [.lf 0] (.prim (.fld 0) [.lf 14] (.loadm 29 (.lf 15) .one (.prim (.slc 1 true false) [.lf 16, .num .i64 1] (.prim .nchk [.lf 0] (.prim (.fld 0) [.lf 18] (.fst 29 (.lf 19) (.one (.lf 17)) (.prim (.cvt .i64) [.lf 13] (.ret (.one (.lf 20)))))))))))))))))))))))))
theorem tr_qbyte_eq : Sx.treeEs Try.prog 83 [] [] [999999] [(false, 1)] = some tr_qbyte := by kernel_rfl

theorem qbyte_any (g : Nat) (o : Option (List Nat)) (w : World) (hW : Sx.RqW 94 w g o) : Calls Try.prog 83 #[.pointer (some ⟨g, 0, none⟩)] w (Sx.RqOut 94 w g (o.bind pbyte) (fun _ x _ u => u = .int .i64 (x : Int) ∧ x < 256 ∧ (o.bind pbyte = none → x = 0))) := by
  refine Sx.runQ Sx.nkI rfl rfl hW [] [999999] (ls := [.pointer (some ⟨g, 0, none⟩)]) (shs := [(false, 1)]) tr_qbyte_eq rfl (by decide) fun S0 => ?_
  unfold tr_qbyte
  refine Sx.sat_isbad S0 (by kernel_rfl) (by kernel_rfl) (by kernel_rfl) ?_
  cases hb : o.isNone
  · refine sat_false (by kernel_rfl) ?_
    obtain ⟨b, rfl⟩ := isNone_some hb
    obtain ⟨A, c, b', hB, hR, hby, hbb⟩ := S0.rd
    obtain rfl := hbb b rfl
    have hg := S0.bg
    refine sat_prim (v := .pointer (some ⟨g, 0, none⟩)) (by kernel_rfl) ?_
    refine sat_prim (v := .pointer (some ⟨g, 0 + 0, none⟩)) (by kernel_rfl) ?_
    refine Sx.sat_bload (off := 0) (.slice A b.length c) hB hg (by kernel_rfl) rfl (by kernel_rfl) ?_
    refine sat_prim (v := .int .i64 ((b.length : Nat) : Int)) (by kernel_rfl) ?_
    refine sat_prim (v := .bool (((b.length : Nat) : Int) == 0)) (by kernel_rfl) ?_
    cases b with
    | nil =>
      refine sat_trueP (b := (((([] : List Nat).length : Nat) : Int) == 0)) (by kernel_rfl) rfl ?_
      refine Sx.sat_setbad S0 (by kernel_rfl) (by kernel_rfl) (by kernel_rfl) fun ow h1 _ S1 => ?_
      exact sat_ret (.int .i64 0) (by kernel_rfl) fun w9 h9 => ⟨0, none, rfl, ⟨rfl, by decide, fun _ => rfl⟩, (S1.le h9).rd⟩
    | cons x b =>
      refine sat_falseP (b := ((((x :: b).length : Nat) : Int) == 0)) (by kernel_rfl) (by rw [List.length_cons]; exact beq_eq_false_iff_ne.2 (by omega)) ?_
      have hx : x < 256 := hby x (List.mem_cons_self ..)
      refine sat_prim (v := .pointer (some ⟨g, 0, none⟩)) (by kernel_rfl) ?_
      refine sat_prim (v := .pointer (some ⟨g, 0 + 0, none⟩)) (by kernel_rfl) ?_
      refine Sx.sat_bload (off := 0) (.slice A (x :: b).length c) hB hg (by kernel_rfl) rfl (by kernel_rfl) ?_
      refine Sx.sat_numK .u8 (kk := .i64) (j := 12) (xs := x :: b) (i := 0) (by kernel_rfl) rfl hR (by kernel_rfl) (by kernel_rfl) (by simp) (by kernel_rfl) fun g1 o1 => ?_
      refine sat_prim (v := .pointer (some ⟨g, 0, none⟩)) (by kernel_rfl) ?_
      refine sat_prim (v := .pointer (some ⟨g, 0 + 0, none⟩)) (by kernel_rfl) ?_
      refine Sx.sat_bload (off := 0) (.slice A (x :: b).length c) hB hg (by kernel_rfl) rfl (by kernel_rfl) ?_
      obtain ⟨B, e1, e2⟩ := cut8 hR
      refine sat_prim (v := .slice B b.length (c - 1)) (Eq.trans (by kernel_rfl) e1) ?_
      refine sat_prim (v := .pointer (some ⟨g, 0, none⟩)) (by kernel_rfl) ?_
      refine sat_prim (v := .pointer (some ⟨g, 0 + 0, none⟩)) (by kernel_rfl) ?_
      refine Sx.sat_qset (.slice B b.length (c - 1)) hB hg (by kernel_rfl) (by kernel_rfl) ((okS _ _ _).n _) ((okB _).n _) rfl rfl (by kernel_rfl) fun ow h1 B1 => ?_
      refine sat_prim (v := .int .i64 ((x : Nat) : Int)) (Eq.trans (b := some (.int .i64 (IntKind.i64.wrap ((x : Nat) : Int)))) (by kernel_rfl) (sml rfl (by omega))) ?_
      exact sat_ret (.int .i64 ((x : Nat) : Int)) (by kernel_rfl) fun w9 h9 => ⟨x, some b, rfl, ⟨rfl, hx, fun e => by cases e⟩, B, c - 1, b, by unfold Box; rw [h9.keepB g (h1.bld g hg)]; exact B1, h9.rdk rfl (h1.rdk rfl e2), hby.tail, fun b' e => by cases e; rfl⟩
  · refine sat_true (by kernel_rfl) ?_
    obtain rfl := isNone_none hb
    refine Sx.sat_setbad S0 (by kernel_rfl) (by kernel_rfl) (by kernel_rfl) fun ow h1 _ S1 => ?_
    exact sat_ret (.int .i64 0) (by kernel_rfl) fun w9 h9 => ⟨0, none, rfl, ⟨rfl, by decide, fun _ => rfl⟩, (S1.le h9).rd⟩

def tr_qnum : Sx.Tree := .loop 0 [.num .i64 0, .num .i64 0, .num .i64 0] (.call 83 [.one (.lf 0)] .one (.prim (.bin .and) [.lf 5, .num .i64 127] (.prim (.bin .mul) [.num .i64 7, .lf 2] (.prim (.cvt .u64) [.lf 7] (.prim .shl [.lf 6, .lf 8] (.prim (.bin .or) [.lf 3, .lf 9] (.prim (.bin .add) [.lf 2, .num .i64 1] (.prim .nchk [.lf 0] (.prim (.fld 1) [.lf 12] (.loadm 4 (.lf 13) .one (.ite (.lf 14) (.prim .nchk [.lf 0] (.prim (.fld 1) [.lf 15] (.fst 4 (.lf 16) (.one (.bit true)) (.ret (.one (.num .i64 0)))))) (.prim (.bin .gtr) [.lf 11, .num .i64 6] (.ite (.lf 15) (.prim .nchk [.lf 0] (.prim (.fld 1) [.lf 16] (.fst 4 (.lf 17) (.one (.bit true)) (.ret (.one (.num .i64 0)))))) (.prim (.bin .gtr) [.lf 10, .lf 1] (.ite (.lf 16) (.prim .nchk [.lf 0] (.prim (.fld 1) [.lf 17] (.fst 4 (.lf 18) (.one (.bit true)) (.ret (.one (.num .i64 0)))))) (.prim (.bin .eql) [.lf 5, .num .i64 0] (.ite (.lf 17) (.prim (.bin .gtr) [.lf 11, .num .i64 1] (.ite (.lf 18) (.prim .nchk [.lf 0] (.prim (.fld 1) [.lf 19] (.fst 4 (.lf 20) (.one (.bit true)) (.ret (.one (.num .i64 0)))))) (.prim (.bin .lss) [.lf 5, .num .i64 128] (.ite (.lf 19) (.ret (.one (.lf 10))) (.back 0 [.lf 11, .lf 10, .lf 4]))))) (.prim (.bin .lss) [.lf 5, .num .i64 128] (.ite (.lf 18) (.ret (.one (.lf 10))) (.back 0 [.lf 11, .lf 10, .lf 4]))))))))))))))))))))
theorem tr_qnum_eq : Sx.treeEs Try.prog 56 [] [] [999999] [(false, 1), (false, 1)] = some tr_qnum := by kernel_rfl

theorem andi_all : ((List.range 256).all fun x => bits .and .i64 ((x : Nat) : Int) 127 == ((x % 128 : Nat) : Int)) = true := by kernel_rfl

theorem pr_andi {n : Nat} (hn : n < 256) : Sx.Prim.ev (.bin .and) [.int .i64 ((n : Nat) : Int), .int .i64 127] = some (.int .i64 ((n % 128 : Nat) : Int)) := by
  have h := List.all_eq_true.1 andi_all n (List.mem_range.2 hn)
  have h2 := eq_of_beq h
  show some (Value.int .i64 (bits .and .i64 ((n : Nat) : Int) 127)) = _
  rw [h2]
theorem qnum_any (g : Nat) (o : Option (List Nat)) (most : Nat) (hmost : most < 4611686018427387904) (w : World) (hW : Sx.RqW 94 w g o) : Calls Try.prog 56 #[.pointer (some ⟨g, 0, none⟩), .int .i64 ((most : Nat) : Int)] w (Sx.RqOut 94 w g (o.bind (qnum most)) (fun _ x _ u => u = .int .i64 ((x : Nat) : Int) ∧ x ≤ most)) := by
  refine Sx.runQ Sx.nkI rfl rfl hW [] [999999] (ls := [.pointer (some ⟨g, 0, none⟩), .int .i64 ((most : Nat) : Int)]) (shs := [(false, 1), (false, 1)]) tr_qnum_eq rfl (by decide) fun S0 => ?_
  unfold tr_qnum
  refine sat_loop (fun Kn vs W => ∃ (j n : Nat) (o' : Option (List Nat)), vs = [.int .i64 ((j : Nat) : Int), .int .i64 ((n : Nat) : Int), .int .i64 0] ∧ Kn = 7 - j ∧ j ≤ 6 ∧ n < 2 ^ (7 * j) ∧ Sx.RqS 94 (Sx.rfr Sx.nkI rfl w g) W g o' ∧ o.bind (qnum most) = o'.bind (qnumF most n j)) [.int .i64 0, .int .i64 0, .int .i64 0] (by kernel_rfl) (fun w1 h1 => ⟨_, 0, 0, o, rfl, rfl, by omega, by decide, S0.le h1, rfl⟩) ?_
  rintro Kn vs w1 h1 ⟨j, n, o1, rfl, rfl, hj, hn, S1, hsp⟩
  clear h1
  have h42 := pow7_lt hj
  refine Sx.sat_qcall (p := o1.bind pbyte) S1 #[.pointer (some ⟨g, 0, none⟩)] (by kernel_rfl) (fun w2 h2 W2 => qbyte_any g o1 _ W2) (fun w2 o2 x s2 u e h2 l2 hu S2 _ _ => ?_)
  obtain ⟨rfl, hx, hx0⟩ := hu
  refine ⟨[.int .i64 (x : Int)], rfl, rfl, ?_⟩
  have hs1 : x % 128 * 2 ^ (7 * j) ≤ 127 * 4398046511104 := Nat.mul_le_mul (by omega) h42
  refine sat_prim (v := .int .i64 ((x % 128 : Nat) : Int)) (Eq.trans (by kernel_rfl) (pr_andi hx)) ?_
  refine sat_prim (v := .int .i64 ((7 * j : Nat) : Int)) (Eq.trans (b := some (.int .i64 (IntKind.i64.wrap (7 * ((j : Nat) : Int))))) (by kernel_rfl) (sml (by omega) (by omega))) ?_
  refine sat_prim (v := .int .u64 ((7 * j : Nat) : Int)) (Eq.trans (by kernel_rfl) (pr_cvtn (n := 7 * j) (by omega))) ?_
  refine sat_prim (v := .int .i64 ((x % 128 * 2 ^ (7 * j) : Nat) : Int)) (Eq.trans (b := Sx.Prim.ev .shl [.int .i64 ((x % 128 : Nat) : Int), .int .u64 ((7 * j : Nat) : Int)]) (by kernel_rfl) (by
    show (if ((7 * j : Nat) : Int) < 0 then none else some (Value.int .i64 (IntKind.i64.wrap (((x % 128 : Nat) : Int) * 2 ^ Nat.min ((7 * j : Nat) : Int).toNat 64)))) = _
    rw [if_neg (by omega), Int.toNat_natCast, show Nat.min (7 * j) 64 = 7 * j from Nat.min_eq_left (by omega), show (2 : Int) ^ (7 * j) = ((2 ^ (7 * j) : Nat) : Int) by rw [Int.natCast_pow]; rfl, ← Int.natCast_mul, IntWalk.i64_in _ (by omega)])) ?_
  refine sat_prim (v := .int .i64 ((n + x % 128 * 2 ^ (7 * j) : Nat) : Int)) (Eq.trans (b := some (.int .i64 (bits .or .i64 ((n : Nat) : Int) ((x % 128 * 2 ^ (7 * j) : Nat) : Int)))) (by kernel_rfl) (by rw [i64_or_add hn (Nat.mul_mod_left ..) (by omega)])) ?_
  refine sat_prim (v := .int .i64 ((j + 1 : Nat) : Int)) (Eq.trans (b := some (.int .i64 (IntKind.i64.wrap (((j : Nat) : Int) + 1)))) (by kernel_rfl) (sml (by omega) (by omega))) ?_
  have hp7 := pw7 (x := x) hn
  have bad : ∀ (T : Sx.Tree), o.bind (qnum most) = none → ∀ (w9 : Sx.OW), Sx.RqS 94 (Sx.rfr Sx.nkI rfl w g) w9 g none → ∃ x' o', o.bind (qnum most) = o'.map (fun b => (x', b)) ∧ (Value.int .i64 0 = .int .i64 ((x' : Nat) : Int) ∧ x' ≤ most) ∧ Sx.RqW 94 w9.toWorld g o' := fun _ e w9 S => ⟨0, none, e, ⟨rfl, Nat.zero_le _⟩, S.rd⟩
  have bad := bad .dead
  refine Sx.sat_isbad S2 (by kernel_rfl) (by kernel_rfl) (by kernel_rfl) ?_
  cases hb : s2.isNone
  rotate_left
  · refine sat_true (by kernel_rfl) ?_
    obtain rfl := isNone_none hb
    refine Sx.sat_setbad S2 (by kernel_rfl) (by kernel_rfl) (by kernel_rfl) fun ow h1 _ S3 => ?_
    refine sat_ret (.int .i64 0) (by kernel_rfl) fun w9 h9 => bad ?_ _ (S3.le h9)
    rw [hsp]
    cases o1 with
    | none => rfl
    | some b1 =>
      cases b1 with
      | nil => rfl
      | cons c b1 => cases e
  refine sat_false (by kernel_rfl) ?_
  obtain ⟨b2, rfl⟩ := isNone_some hb
  obtain rfl : o1 = some (x :: b2) := by
    cases o1 with
    | none => cases e
    | some b1 =>
      cases b1 with
      | nil => cases e
      | cons c b1 => cases e; rfl
  clear h2 l2 e hb hx0
  generalize hq : n + x % 128 * 2 ^ (7 * j) = q at *
  have hsp2 : o.bind (qnum most) = bif decide (most < q) || (decide (5 < j) || (decide (x = 0) && decide (0 < j))) then none else bif decide (x < 128) then some (q, b2) else qnumF most q (j + 1) b2 := by rw [hsp, ← hq]; rfl
  refine sat_prim (v := .bool (decide ((6 : Int) < ((j + 1 : Nat) : Int)))) (by kernel_rfl) ?_
  by_cases c2 : 5 < j
  · refine sat_trueP (b := decide ((6 : Int) < ((j + 1 : Nat) : Int))) (by kernel_rfl) (decide_eq_true (by omega)) ?_
    refine Sx.sat_setbad S2 (by kernel_rfl) (by kernel_rfl) (by kernel_rfl) fun ow h1 _ S3 => ?_
    exact sat_ret (.int .i64 0) (by kernel_rfl) fun w9 h9 => bad (by rw [hsp2, decide_eq_true c2, Bool.true_or, Bool.or_true]; rfl) _ (S3.le h9)
  refine sat_falseP (b := decide ((6 : Int) < ((j + 1 : Nat) : Int))) (by kernel_rfl) (decide_eq_false (by omega)) ?_
  refine sat_prim (v := .bool (decide (((most : Nat) : Int) < ((q : Nat) : Int)))) (by kernel_rfl) ?_
  by_cases c1 : most < q
  · refine sat_trueP (b := decide (((most : Nat) : Int) < ((q : Nat) : Int))) (by kernel_rfl) (decide_eq_true (by omega)) ?_
    refine Sx.sat_setbad S2 (by kernel_rfl) (by kernel_rfl) (by kernel_rfl) fun ow h1 _ S3 => ?_
    exact sat_ret (.int .i64 0) (by kernel_rfl) fun w9 h9 => bad (by rw [hsp2, decide_eq_true c1]; rfl) _ (S3.le h9)
  refine sat_falseP (b := decide (((most : Nat) : Int) < ((q : Nat) : Int))) (by kernel_rfl) (decide_eq_false (by omega)) ?_
  rw [decide_eq_false c1, decide_eq_false c2, Bool.false_or, Bool.false_or] at hsp2
  refine sat_prim (v := .bool (((x : Nat) : Int) == 0)) (by kernel_rfl) ?_
  by_cases c3 : x = 0
  · refine sat_trueP (b := (((x : Nat) : Int) == 0)) (by kernel_rfl) (by rw [c3]; rfl) ?_
    refine sat_prim (v := .bool (decide ((1 : Int) < ((j + 1 : Nat) : Int)))) (by kernel_rfl) ?_
    by_cases c4 : 0 < j
    · refine sat_trueP (b := decide ((1 : Int) < ((j + 1 : Nat) : Int))) (by kernel_rfl) (decide_eq_true (by omega)) ?_
      refine Sx.sat_setbad S2 (by kernel_rfl) (by kernel_rfl) (by kernel_rfl) fun ow h1 _ S3 => ?_
      exact sat_ret (.int .i64 0) (by kernel_rfl) fun w9 h9 => bad (by rw [hsp2, decide_eq_true c3, decide_eq_true c4]; rfl) _ (S3.le h9)
    refine sat_falseP (b := decide ((1 : Int) < ((j + 1 : Nat) : Int))) (by kernel_rfl) (decide_eq_false (by omega)) ?_
    refine sat_prim (v := .bool (decide (((x : Nat) : Int) < 128))) (by kernel_rfl) ?_
    refine sat_trueP (b := decide (((x : Nat) : Int) < 128)) (by kernel_rfl) (decide_eq_true (by omega)) ?_
    exact sat_ret (.int .i64 ((q : Nat) : Int)) (by kernel_rfl) fun w9 h9 => ⟨q, some b2, by rw [hsp2, decide_eq_false c4, decide_eq_true (show x < 128 by omega), Bool.and_false]; rfl, ⟨rfl, by omega⟩, (S2.le h9).rd⟩
  refine sat_falseP (b := (((x : Nat) : Int) == 0)) (by kernel_rfl) (beq_eq_false_iff_ne.2 (by omega)) ?_
  rw [decide_eq_false c3, Bool.false_and] at hsp2
  refine sat_prim (v := .bool (decide (((x : Nat) : Int) < 128))) (by kernel_rfl) ?_
  by_cases c5 : x < 128
  · refine sat_trueP (b := decide (((x : Nat) : Int) < 128)) (by kernel_rfl) (decide_eq_true (by omega)) ?_
    exact sat_ret (.int .i64 ((q : Nat) : Int)) (by kernel_rfl) fun w9 h9 => ⟨q, some b2, by rw [hsp2, decide_eq_true c5]; rfl, ⟨rfl, by omega⟩, (S2.le h9).rd⟩
  refine sat_falseP (b := decide (((x : Nat) : Int) < 128)) (by kernel_rfl) (decide_eq_false (by omega)) ?_
  exact sat_back [.int .i64 ((j + 1 : Nat) : Int), .int .i64 ((q : Nat) : Int), .int .i64 0] (by kernel_rfl) fun w9 h9 => ⟨_, by omega, j + 1, q, some b2, rfl, rfl, by omega, hp7, S2.le h9, by rw [hsp2, decide_eq_false c5]; rfl⟩

end Go.Proofs.Ytpkfjfpknbhekaa
namespace Go.Proofs.Ytpkfjfpknbhekaa
open Go.RowKit Pl
open Sx (sat_call sat_chk sat_prim sat_ite sat_true sat_false sat_trueP sat_falseP sat_ret sat_row sat_callP sat_loop sat_back sat_idx sat_el sat_elf sat_elc sat_load sat_rowN sat_app sat_callB sat_alt rows_one rows_two all_nil all_cons okB okS okI)

theorem plimbF_step {i m : Nat} (hi : i < 8) (b : List Nat) : plimbF (8 - i) m b = andP (pbyte b) fun c b' => plimbF (8 - (i + 1)) (m + c * 256 ^ i) b' := by
  obtain ⟨k, hk⟩ : ∃ k, 8 - i = k + 1 := ⟨7 - i, by omega⟩
  rw [hk, show 8 - (i + 1) = k by omega]
  cases b with
  | nil => rfl
  | cons c b =>
    show plimbF k (m + c * 256 ^ (7 - k)) b = plimbF k (m + c * 256 ^ i) b
    rw [show 7 - k = i by omega]
def qdyE (m : List Nat) (b2 : List Nat) : Option (Dy × List Nat) := andP (pbyte b2) fun c b3 => andP (qnum 4194304 b3) fun e b4 => qdyT m c e b4
theorem and_bit {q : Nat} (h : q ≤ 4194304) : Sx.Prim.ev (.bin .and) [.int .i64 ((q : Nat) : Int), .int .i64 1] = some (.int .i64 ((q % 2 : Nat) : Int)) := by
  show some (Value.int .i64 (IntKind.i64.wrap ((BitVec.ofInt 64 ((q : Nat) : Int) &&& BitVec.ofInt 64 1).toNat : Int))) = _
  have e1 : (BitVec.ofInt 64 ((q : Nat) : Int)).toNat = q := by rw [BitVec.toNat_ofInt]; omega
  have e2 : (BitVec.ofInt 64 (1 : Int)).toNat = 1 := by decide
  rw [BitVec.toNat_and, e1, e2, Nat.and_one_is_mod, IntWalk.i64_in _ (by omega)]
theorem qdyT_no {m : List Nat} {c e : Nat} (h : 1 < c ∨ mayD ⟨c == 1, m, expo e⟩ = false) (b : List Nat) : qdyT m c e b = none := by
  unfold qdyT
  rcases h with h | h
  · rw [decide_eq_true h]; rfl
  · rw [h, Bool.not_false, Bool.or_true]; rfl
theorem bind_no {X : Type} {o : Option (List Nat)} {f : List Nat → Option X} (h : ∀ b, f b = none) : o.bind f = none := by
  cases o with
  | none => rfl
  | some b => exact h b

def tr_qdy : Sx.Tree := .call 56 [.one (.lf 0), .one (.num .i64 64)] .one (.loop 0 [.num .i64 0, .bit false, .nil, .num .i64 0] (.prim (.bin .lss) [.lf 2, .lf 1] (.ite (.lf 6) (.prim .nchk [.lf 0] (.prim (.fld 1) [.lf 7] (.loadm 4 (.lf 8) .one (.prim .not [.lf 9] (.ite (.lf 10) (.loop 1 [.num .i64 0, .num .u64 0, .lf 3, .lf 4, .lf 5] (.prim (.bin .lss) [.lf 11, .num .i64 8] (.ite (.lf 16) (.call 83 [.one (.lf 0)] .one (.prim (.cvt .u64) [.lf 17] (.prim (.bin .mul) [.num .i64 8, .lf 11] (.prim (.cvt .u64) [.lf 19] (.prim .shl [.lf 18, .lf 20] (.prim (.bin .or) [.lf 12, .lf 21] (.prim (.bin .add) [.lf 11, .num .i64 1] (.back 1 [.lf 23, .lf 22, .lf 13, .lf 14, .lf 15])))))))) (.row 51 [.lf 12] 1 [.lf 12] (.appk .u64 51 1 8 (.lf 14) (.lf 17) (.chk [.lf 18] (.prim (.bin .add) [.lf 2, .num .i64 1] (.back 0 [.lf 19, .lf 13, .lf 18, .lf 15])))))))) (.call 83 [.one (.lf 0)] .one (.call 56 [.one (.lf 0), .one (.num .i64 4194304)] .one (.prim (.bin .eql) [.lf 11, .num .i64 1] (.chk [.lf 13] (.prim (.bin .quo) [.lf 12, .num .i64 2] (.chk [.lf 14] (.prim (.bin .and) [.lf 12, .num .i64 1] (.prim (.bin .eql) [.lf 15, .num .i64 1] (.ite (.lf 16) (.prim (.bin .add) [.lf 12, .num .i64 1] (.prim .neg [.lf 17] (.prim (.bin .quo) [.lf 18, .num .i64 2] (.chk [.lf 19] (.prim (.bin .gtr) [.lf 11, .num .i64 1] (.ite (.lf 20) (.prim .nchk [.lf 0] (.prim (.fld 1) [.lf 21] (.fst 4 (.lf 22) (.one (.bit true)) (.chk [.lf 13, .lf 4, .lf 19] (.ret (.ag [.lf 13, .lf 4, .lf 19])))))) (.call 19 [.ag [.lf 13, .lf 4, .lf 19]] .one (.prim .not [.lf 21] (.ite (.lf 22) (.prim .nchk [.lf 0] (.prim (.fld 1) [.lf 23] (.fst 4 (.lf 24) (.one (.bit true)) (.chk [.lf 13, .lf 4, .lf 19] (.ret (.ag [.lf 13, .lf 4, .lf 19])))))) (.chk [.lf 13, .lf 4, .lf 19] (.ret (.ag [.lf 13, .lf 4, .lf 19])))))))))))) (.prim (.bin .gtr) [.lf 11, .num .i64 1] (.ite (.lf 17) (.prim .nchk [.lf 0] (.prim (.fld 1) [.lf 18] (.fst 4 (.lf 19) (.one (.bit true)) (.chk [.lf 13, .lf 4, .lf 14] (.ret (.ag [.lf 13, .lf 4, .lf 14])))))) (.call 19 [.ag [.lf 13, .lf 4, .lf 14]] .one (.prim .not [.lf 18] (.ite (.lf 19) (.prim .nchk [.lf 0] (.prim (.fld 1) [.lf 20] (.fst 4 (.lf 21) (.one (.bit true)) (.chk [.lf 13, .lf 4, .lf 14] (.ret (.ag [.lf 13, .lf 4, .lf 14])))))) (.chk [.lf 13, .lf 4, .lf 14] (.ret (.ag [.lf 13, .lf 4, .lf 14])))))))))))))))))))))) (.call 83 [.one (.lf 0)] .one (.call 56 [.one (.lf 0), .one (.num .i64 4194304)] .one (.prim (.bin .eql) [.lf 7, .num .i64 1] (.chk [.lf 9] (.prim (.bin .quo) [.lf 8, .num .i64 2] (.chk [.lf 10] (.prim (.bin .and) [.lf 8, .num .i64 1] (.prim (.bin .eql) [.lf 11, .num .i64 1] (.ite (.lf 12) (.prim (.bin .add) [.lf 8, .num .i64 1] (.prim .neg [.lf 13] (.prim (.bin .quo) [.lf 14, .num .i64 2] (.chk [.lf 15] (.prim (.bin .gtr) [.lf 7, .num .i64 1] (.ite (.lf 16) (.prim .nchk [.lf 0] (.prim (.fld 1) [.lf 17] (.fst 4 (.lf 18) (.one (.bit true)) (.chk [.lf 9, .lf 4, .lf 15] (.ret (.ag [.lf 9, .lf 4, .lf 15])))))) (.call 19 [.ag [.lf 9, .lf 4, .lf 15]] .one (.prim .not [.lf 17] (.ite (.lf 18) (.prim .nchk [.lf 0] (.prim (.fld 1) [.lf 19] (.fst 4 (.lf 20) (.one (.bit true)) (.chk [.lf 9, .lf 4, .lf 15] (.ret (.ag [.lf 9, .lf 4, .lf 15])))))) (.chk [.lf 9, .lf 4, .lf 15] (.ret (.ag [.lf 9, .lf 4, .lf 15])))))))))))) (.prim (.bin .gtr) [.lf 7, .num .i64 1] (.ite (.lf 13) (.prim .nchk [.lf 0] (.prim (.fld 1) [.lf 14] (.fst 4 (.lf 15) (.one (.bit true)) (.chk [.lf 9, .lf 4, .lf 10] (.ret (.ag [.lf 9, .lf 4, .lf 10])))))) (.call 19 [.ag [.lf 9, .lf 4, .lf 10]] .one (.prim .not [.lf 14] (.ite (.lf 15) (.prim .nchk [.lf 0] (.prim (.fld 1) [.lf 16] (.fst 4 (.lf 17) (.one (.bit true)) (.chk [.lf 9, .lf 4, .lf 10] (.ret (.ag [.lf 9, .lf 4, .lf 10])))))) (.chk [.lf 9, .lf 4, .lf 10] (.ret (.ag [.lf 9, .lf 4, .lf 10]))))))))))))))))))))
theorem tr_qdy_eq : Sx.treeEs Try.prog 57 [] [1] [999999] [(false, 1)] = some tr_qdy := by kernel_rfl

set_option maxHeartbeats 1000000 in
theorem qdy_any (g : Nat) (o : Option (List Nat)) (w : World) (hW : Sx.RqW 94 w g o) : Calls Try.prog 57 #[.pointer (some ⟨g, 0, none⟩)] w (Sx.RqOut 94 w g (o.bind qdy) RvD) := by
  refine Sx.runQ Sx.nkM rfl rfl hW [1] [999999] (ls := [.pointer (some ⟨g, 0, none⟩)]) (shs := [(false, 1)]) tr_qdy_eq rfl (by decide) fun S0 => ?_
  unfold tr_qdy
  refine Sx.sat_qcall (p := o.bind (qnum 64)) S0 #[.pointer (some ⟨g, 0, none⟩), .int .i64 64] (by kernel_rfl) (fun w2 h2 W2 => qnum_any g o 64 (by omega) _ W2) (fun w2 o2 n s2 u e h2 l2 hu S2 _ _ => ?_)
  obtain ⟨rfl, hn⟩ := hu
  have hsp : o.bind qdy = s2.bind fun b => andP (prep plimb n [] b) qdyE := bind_step e
  clear h2 l2 e
  refine ⟨[.int .i64 ((n : Nat) : Int)], rfl, rfl, ?_⟩
  refine sat_loop (fun Kn vs W => ∃ (i : Nat) (acc : List Nat) (s' : Option (List Nat)) (A : Option Addr) (c : Nat), vs = [.int .i64 ((i : Nat) : Int), .bool false, .slice A acc.length c, .int .i64 0] ∧ Kn = n - i ∧ i ≤ n ∧ acc.length = i ∧ Lim BB acc ∧ Sx.RqS 94 (Sx.rfr Sx.nkM rfl w g) W g s' ∧ Sx.GnN (Sx.rfr Sx.nkM rfl w g) W (.slice A acc.length c) acc g ∧ o.bind qdy = s'.bind fun b => andP (prep plimb (n - i) acc b) qdyE) [.int .i64 0, .bool false, .slice none 0 0, .int .i64 0] (by kernel_rfl) (fun w1 h1 => ⟨_, 0, [], s2, none, 0, rfl, rfl, by omega, rfl, fun _ h => (by cases h), S2.le h1, ⟨rfl, Sx.OR.nil _ _ _ _, fun e => by cases e⟩, hsp⟩) ?_
  rintro Kn vs w3 h3 ⟨i, acc, o3, A, c, rfl, rfl, hi, hacc, hlim, S3, G3, hsp3⟩
  clear hsp S2 h3
  refine sat_prim (v := .bool (decide (((i : Nat) : Int) < ((n : Nat) : Int)))) (by kernel_rfl) ?_
  by_cases hin : i < n
  · refine sat_trueP (b := decide (((i : Nat) : Int) < ((n : Nat) : Int))) (by kernel_rfl) (decide_eq_true (by omega)) ?_
    refine Sx.sat_isbad S3 (by kernel_rfl) (by kernel_rfl) (by kernel_rfl) ?_
    refine sat_prim (v := .bool (!o3.isNone)) (by kernel_rfl) ?_
    cases hbd : o3.isNone
    · refine sat_true (by kernel_rfl) ?_
      obtain ⟨k, hk⟩ : ∃ k, n - i = k + 1 := ⟨n - i - 1, by omega⟩
      have hspL : o.bind qdy = o3.bind fun b => andP (plimbF (8 - 0) 0 b) (fun x b' => andP (prep plimb k (acc ++ [x]) b') qdyE) := by
        rw [hsp3, hk]
        congr 1
        funext b
        exact andP_assoc
      refine sat_loop (fun Kn vs W => ∃ (i' m : Nat) (s' : Option (List Nat)), vs = [.int .i64 ((i' : Nat) : Int), .int .u64 ((m : Nat) : Int), .bool false, .slice A acc.length c, .int .i64 0] ∧ Kn = 8 - i' ∧ i' ≤ 8 ∧ m < 256 ^ i' ∧ Sx.RqS 94 (Sx.rfr Sx.nkM rfl w g) W g s' ∧ Sx.GnN (Sx.rfr Sx.nkM rfl w g) W (.slice A acc.length c) acc g ∧ o.bind qdy = s'.bind fun b => andP (plimbF (8 - i') m b) (fun x b' => andP (prep plimb k (acc ++ [x]) b') qdyE)) [.int .i64 0, .int .u64 0, .bool false, .slice A acc.length c, .int .i64 0] (by kernel_rfl) (fun w1 h1 => ⟨_, 0, 0, o3, rfl, rfl, by omega, by decide, S3.le h1, G3.le h1, hspL⟩) ?_
      rintro Kn vs w4 h4 ⟨i', m, o4, rfl, rfl, hi', hm, S4, G4, hsp4⟩
      clear hsp3 S3 G3 h4 hspL
      refine sat_prim (v := .bool (decide (((i' : Nat) : Int) < 8))) (by kernel_rfl) ?_
      by_cases hi8 : i' < 8
      · refine sat_trueP (b := decide (((i' : Nat) : Int) < 8)) (by kernel_rfl) (decide_eq_true (by omega)) ?_
        refine Sx.sat_qcall (p := o4.bind pbyte) S4 #[.pointer (some ⟨g, 0, none⟩)] (by kernel_rfl) (fun w2 h2 W2 => qbyte_any g o4 _ W2) (fun w2 o5 x s5 u e h2 l2 hu S5 kp _ => ?_)
        obtain ⟨rfl, hx, _⟩ := hu
        have hsp5 : o.bind qdy = s5.bind fun b => andP (plimbF (8 - (i' + 1)) (m + x * 256 ^ i') b) (fun x b' => andP (prep plimb k (acc ++ [x]) b') qdyE) := by
          rw [hsp4]
          refine Eq.trans ?_ (bind_step (q := pbyte) (f := fun x b => andP (plimbF (8 - (i' + 1)) (m + x * 256 ^ i') b) (fun x b' => andP (prep plimb k (acc ++ [x]) b') qdyE)) e)
          congr 1
          funext b
          rw [plimbF_step hi8, andP_assoc]
        have G5 := G4.rd kp
        clear h2 l2 e G4 kp
        refine ⟨[.int .i64 (x : Int)], rfl, rfl, ?_⟩
        refine sat_prim (v := .int .u64 ((x : Nat) : Int)) (Eq.trans (by kernel_rfl) (pr_cvtn (n := x) (by omega))) ?_
        refine sat_prim (v := .int .i64 ((8 * i' : Nat) : Int)) (Eq.trans (b := some (.int .i64 (IntKind.i64.wrap (8 * ((i' : Nat) : Int))))) (by kernel_rfl) (sml (by omega) (by omega))) ?_
        refine sat_prim (v := .int .u64 ((8 * i' : Nat) : Int)) (Eq.trans (by kernel_rfl) (pr_cvtn (n := 8 * i') (by omega))) ?_
        refine sat_prim (v := .int .u64 ((x * 256 ^ i' : Nat) : Int)) (Eq.trans (by kernel_rfl) (pr_shlb hx hi8)) ?_
        refine sat_prim (v := .int .u64 ((m + x * 256 ^ i' : Nat) : Int)) (Eq.trans (by kernel_rfl) (or_byte hm hx hi8)) ?_
        refine sat_prim (v := .int .i64 ((i' + 1 : Nat) : Int)) (Eq.trans (b := some (.int .i64 (IntKind.i64.wrap (((i' : Nat) : Int) + 1)))) (by kernel_rfl) (sml (by omega) (by omega))) ?_
        have hst := lt_step hm hx
        generalize m + x * 256 ^ i' = q at *
        exact sat_back [.int .i64 ((i' + 1 : Nat) : Int), .int .u64 ((q : Nat) : Int), .bool false, .slice A acc.length c, .int .i64 0] (by kernel_rfl) fun w9 h9 => ⟨_, by omega, i' + 1, q, s5, rfl, rfl, by omega, hst, S5.le h9, G5.le h9, hsp5⟩
      · refine sat_falseP (b := decide (((i' : Nat) : Int) < 8)) (by kernel_rfl) (decide_eq_false (by omega)) ?_
        obtain rfl : i' = 8 := by omega
        have hsp5 : o.bind qdy = o4.bind fun b => andP (prep plimb k (acc ++ [m]) b) qdyE := hsp4
        refine Sx.sat_qpush64 (j := 17) m G4 S4 (by kernel_rfl) (fun r => by kernel_rfl) (by kernel_rfl) (fun y hy => by obtain rfl := List.mem_singleton.1 hy; kernel_rfl) (by omega) fun r A' c' o5 l5 S5 G5 => ?_
        refine sat_chkB (by kernel_rfl) ?_
        refine sat_prim (v := .int .i64 ((i + 1 : Nat) : Int)) (Eq.trans (b := some (.int .i64 (IntKind.i64.wrap (((i : Nat) : Int) + 1)))) (by kernel_rfl) (sml (by omega) (by omega))) ?_
        exact Sx.sat_backO (d := 0) (d' := 1) rfl [.int .i64 ((i + 1 : Nat) : Int), .bool false, .slice A' (acc ++ [m]).length c', .int .i64 0] (by kernel_rfl) fun w9 h9 => ⟨_, by omega, i + 1, acc ++ [m], o4, A', c', rfl, rfl, by omega, by rw [List.length_append]; simp only [List.length_cons, List.length_nil]; omega, fun x hx => by
          rcases List.mem_append.1 hx with hx | hx
          · exact hlim x hx
          · obtain rfl := List.mem_singleton.1 hx
            exact hm, S5.le h9, G5.le h9, by rw [show n - (i + 1) = k by omega]; exact hsp5⟩
    · refine sat_false (by kernel_rfl) ?_
      obtain rfl := isNone_none hbd
      have hT : o.bind qdy = (none : Option (List Nat)).bind (qdyE acc) := hsp3
      clear hsp3 hbd
      generalize hO3 : (none : Option (List Nat)) = o3 at *
      refine Sx.sat_qcall (p := o3.bind pbyte) S3 #[.pointer (some ⟨g, 0, none⟩)] (by kernel_rfl) (fun w2 h2 W2 => qbyte_any g o3 _ W2) (fun w2 o5 x s5 u e h2 l2 hu S5 kp _ => ?_)
      have hT5 : o.bind qdy = s5.bind fun b3 => andP (qnum 4194304 b3) fun e b4 => qdyT acc x e b4 := hT.trans (bind_step e)
      obtain ⟨rfl, hx, _⟩ := hu
      have G5 := G3.rd kp
      clear hT h2 l2 e G3 S3 kp
      refine ⟨[.int .i64 (x : Int)], rfl, rfl, ?_⟩
      refine Sx.sat_qcall (p := s5.bind (qnum 4194304)) S5 #[.pointer (some ⟨g, 0, none⟩), .int .i64 4194304] (by kernel_rfl) (fun w2 h2 W2 => qnum_any g s5 4194304 (by omega) _ W2) (fun w2 o6 q s6 u e h2 l2 hu S6 kp _ => ?_)
      have hT6 : o.bind qdy = s6.bind (qdyT acc x q) := hT5.trans (bind_step e)
      obtain ⟨rfl, hq⟩ := hu
      have G6 := G5.rd kp
      clear hT5 h2 l2 e G5 S5 kp
      refine ⟨[.int .i64 (q : Int)], rfl, rfl, ?_⟩
      refine sat_prim (v := .bool (((x : Nat) : Int) == 1)) (by kernel_rfl) ?_
      have ex : (((x : Nat) : Int) == 1) = (x == 1) := by
        by_cases h : x = 1
        · subst h; rfl
        · rw [beq_eq_false_iff_ne.2 (by omega), beq_eq_false_iff_ne.2 h]
      rw [ex]
      refine sat_chkB (by kernel_rfl) ?_
      refine sat_prim (v := .int .i64 ((q / 2 : Nat) : Int)) (Eq.trans (b := some (.int .i64 (IntKind.i64.wrap (((q : Nat) : Int).tdiv 2)))) (by kernel_rfl) (sml (by rw [Int.tdiv_eq_ediv_of_nonneg (by omega)]; omega) (by omega))) ?_
      refine sat_chkB (by kernel_rfl) ?_
      refine sat_prim (v := .int .i64 ((q % 2 : Nat) : Int)) (Eq.trans (by kernel_rfl) (and_bit hq)) ?_
      refine sat_prim (v := .bool (((q % 2 : Nat) : Int) == 1)) (by kernel_rfl) ?_
      have rdd : ∀ (z : Int) (w9 : Sx.OW), Sx.GnN (Sx.rfr Sx.nkM rfl w g) w9 (.slice A acc.length c) acc g → expo q = z → -9000000 ≤ z → z ≤ 9000000 → RdD w9.toWorld (.agg #[.bool (x == 1), .slice A acc.length c, .int .i64 z]) ⟨x == 1, acc, z⟩ := by
        rintro z w9 G9 _ z1 z2
        exact ⟨A, acc.length, c, rfl, RdN.of_own G9.row.row, hlim, (show (-9223372036854775808 : Int) ≤ z by omega), (show z ≤ (9223372036854775807 : Int) by omega)⟩
      have fin : ∀ (z : Int) (s9 : Option (List Nat)) (w9 : Sx.OW), Sx.RqS 94 (Sx.rfr Sx.nkM rfl w g) w9 g s9 → Sx.GnN (Sx.rfr Sx.nkM rfl w g) w9 (.slice A acc.length c) acc g → expo q = z → -9000000 ≤ z → z ≤ 9000000 → (o.bind qdy = s9.map fun b => ((⟨x == 1, acc, z⟩ : Dy), b)) → ∃ x' o', o.bind qdy = o'.map (fun b => (x', b)) ∧ RvD w x' w9.toWorld (.agg #[.bool (x == 1), .slice A acc.length c, .int .i64 z]) ∧ Sx.RqW 94 w9.toWorld g o' := by
        rintro z s9 w9 S9 G9 he z1 z2 hS
        exact ⟨_, s9, hS, ⟨A, acc.length, c, rfl, rdd z w9 G9 he z1 z2⟩, S9.rd⟩
      by_cases ho : q % 2 = 1
      · have hz : expo q = -((q / 2 : Nat) : Int) - 1 := by unfold expo; rw [decide_eq_true ho]; rfl
        refine sat_trueP (b := (((q % 2 : Nat) : Int) == 1)) (by kernel_rfl) (by rw [ho]; rfl) ?_
        refine sat_prim (v := .int .i64 ((q + 1 : Nat) : Int)) (Eq.trans (b := some (.int .i64 (IntKind.i64.wrap (((q : Nat) : Int) + 1)))) (by kernel_rfl) (sml (by omega) (by omega))) ?_
        refine sat_prim (v := .int .i64 (-((q + 1 : Nat) : Int))) (Eq.trans (b := some (.int .i64 (IntKind.i64.wrap (0 - ((q + 1 : Nat) : Int))))) (by kernel_rfl) (sml (by omega) (by omega))) ?_
        refine sat_prim (v := .int .i64 (-((q / 2 : Nat) : Int) - 1)) (Eq.trans (b := some (.int .i64 (IntKind.i64.wrap ((-((q + 1 : Nat) : Int)).tdiv 2)))) (by kernel_rfl) (sml (by rw [Int.neg_tdiv, Int.tdiv_eq_ediv_of_nonneg (by omega)]; omega) (by omega))) ?_
        refine sat_chkB (by kernel_rfl) ?_
        generalize hZ : -((q / 2 : Nat) : Int) - 1 = z at *
        have z1 : -9000000 ≤ z := by omega
        have z2 : z ≤ 9000000 := by omega
        refine sat_prim (v := .bool (decide ((1 : Int) < ((x : Nat) : Int)))) (by kernel_rfl) ?_
        by_cases c1 : 1 < x
        · refine sat_trueP (b := decide ((1 : Int) < ((x : Nat) : Int))) (by kernel_rfl) (decide_eq_true (by omega)) ?_
          refine Sx.sat_setbad S6 (by kernel_rfl) (by kernel_rfl) (by kernel_rfl) fun ow h1 kp S7 => ?_
          refine sat_chkB (by kernel_rfl) ?_
          exact sat_ret (.agg #[.bool (x == 1), .slice A acc.length c, .int .i64 z]) (by kernel_rfl) fun w9 h9 => fin z none _ (S7.le h9) ((G6.rd kp).le h9) hz z1 z2 (by rw [hT6]; exact bind_no fun b => qdyT_no (.inl c1) b)
        · refine sat_falseP (b := decide ((1 : Int) < ((x : Nat) : Int))) (by kernel_rfl) (decide_eq_false (by omega)) ?_
          refine sat_call #[.agg #[.bool (x == 1), .slice A acc.length c, .int .i64 z]] (by kernel_rfl) fun w7 h7 => ?_
          refine (rmayD_any _ ⟨x == 1, acc, z⟩ _ (rdd z _ (G6.le h7) hz z1 z2)).mono ?_
          rintro e v7 ⟨rfl, hb7⟩
          refine ⟨hb7, [.bool (mayD ⟨x == 1, acc, z⟩)], _, rfl, by kernel_rfl, by kernel_rfl, fun g7 => ?_⟩
          have G7 := G6.le g7
          have S7 := S6.le g7
          clear h7 hb7 G6 S6
          refine sat_prim (v := .bool (!(mayD ⟨x == 1, acc, z⟩))) (by kernel_rfl) ?_
          cases hm : mayD ⟨x == 1, acc, z⟩
          · refine sat_true (by kernel_rfl) ?_
            refine Sx.sat_setbad S7 (by kernel_rfl) (by kernel_rfl) (by kernel_rfl) fun ow h1 kp S8 => ?_
            refine sat_chkB (by kernel_rfl) ?_
            exact sat_ret (.agg #[.bool (x == 1), .slice A acc.length c, .int .i64 z]) (by kernel_rfl) fun w9 h9 => fin z none _ (S8.le h9) ((G7.rd kp).le h9) hz z1 z2 (by rw [hT6]; exact bind_no fun b => qdyT_no (.inr (by rw [hz]; exact hm)) b)
          · refine sat_false (by kernel_rfl) ?_
            refine sat_chkB (by kernel_rfl) ?_
            exact sat_ret (.agg #[.bool (x == 1), .slice A acc.length c, .int .i64 z]) (by kernel_rfl) fun w9 h9 => fin z s6 _ (S7.le h9) (G7.le h9) hz z1 z2 (by
              rw [hT6, ← bind_end]
              congr 1
              funext b
              exact qdyT_may (d := ⟨x == 1, acc, z⟩) hm (by omega) rfl hz b)
      · have hz : expo q = ((q / 2 : Nat) : Int) := by unfold expo; rw [decide_eq_false ho]; rfl
        refine sat_falseP (b := (((q % 2 : Nat) : Int) == 1)) (by kernel_rfl) (beq_eq_false_iff_ne.2 (by omega)) ?_
        generalize hZ : ((q / 2 : Nat) : Int) = z at *
        have z1 : -9000000 ≤ z := by omega
        have z2 : z ≤ 9000000 := by omega
        refine sat_prim (v := .bool (decide ((1 : Int) < ((x : Nat) : Int)))) (by kernel_rfl) ?_
        by_cases c1 : 1 < x
        · refine sat_trueP (b := decide ((1 : Int) < ((x : Nat) : Int))) (by kernel_rfl) (decide_eq_true (by omega)) ?_
          refine Sx.sat_setbad S6 (by kernel_rfl) (by kernel_rfl) (by kernel_rfl) fun ow h1 kp S7 => ?_
          refine sat_chkB (by kernel_rfl) ?_
          exact sat_ret (.agg #[.bool (x == 1), .slice A acc.length c, .int .i64 z]) (by kernel_rfl) fun w9 h9 => fin z none _ (S7.le h9) ((G6.rd kp).le h9) hz z1 z2 (by rw [hT6]; exact bind_no fun b => qdyT_no (.inl c1) b)
        · refine sat_falseP (b := decide ((1 : Int) < ((x : Nat) : Int))) (by kernel_rfl) (decide_eq_false (by omega)) ?_
          refine sat_call #[.agg #[.bool (x == 1), .slice A acc.length c, .int .i64 z]] (by kernel_rfl) fun w7 h7 => ?_
          refine (rmayD_any _ ⟨x == 1, acc, z⟩ _ (rdd z _ (G6.le h7) hz z1 z2)).mono ?_
          rintro e v7 ⟨rfl, hb7⟩
          refine ⟨hb7, [.bool (mayD ⟨x == 1, acc, z⟩)], _, rfl, by kernel_rfl, by kernel_rfl, fun g7 => ?_⟩
          have G7 := G6.le g7
          have S7 := S6.le g7
          clear h7 hb7 G6 S6
          refine sat_prim (v := .bool (!(mayD ⟨x == 1, acc, z⟩))) (by kernel_rfl) ?_
          cases hm : mayD ⟨x == 1, acc, z⟩
          · refine sat_true (by kernel_rfl) ?_
            refine Sx.sat_setbad S7 (by kernel_rfl) (by kernel_rfl) (by kernel_rfl) fun ow h1 kp S8 => ?_
            refine sat_chkB (by kernel_rfl) ?_
            exact sat_ret (.agg #[.bool (x == 1), .slice A acc.length c, .int .i64 z]) (by kernel_rfl) fun w9 h9 => fin z none _ (S8.le h9) ((G7.rd kp).le h9) hz z1 z2 (by rw [hT6]; exact bind_no fun b => qdyT_no (.inr (by rw [hz]; exact hm)) b)
          · refine sat_false (by kernel_rfl) ?_
            refine sat_chkB (by kernel_rfl) ?_
            exact sat_ret (.agg #[.bool (x == 1), .slice A acc.length c, .int .i64 z]) (by kernel_rfl) fun w9 h9 => fin z s6 _ (S7.le h9) (G7.le h9) hz z1 z2 (by
              rw [hT6, ← bind_end]
              congr 1
              funext b
              exact qdyT_may (d := ⟨x == 1, acc, z⟩) hm (by omega) rfl hz b)
  · refine sat_falseP (b := decide (((i : Nat) : Int) < ((n : Nat) : Int))) (by kernel_rfl) (decide_eq_false (by omega)) ?_
    have hT : o.bind qdy = o3.bind (qdyE acc) := by rw [hsp3, show n - i = 0 by omega]; rfl
    clear hsp3
    refine Sx.sat_qcall (p := o3.bind pbyte) S3 #[.pointer (some ⟨g, 0, none⟩)] (by kernel_rfl) (fun w2 h2 W2 => qbyte_any g o3 _ W2) (fun w2 o5 x s5 u e h2 l2 hu S5 kp _ => ?_)
    have hT5 : o.bind qdy = s5.bind fun b3 => andP (qnum 4194304 b3) fun e b4 => qdyT acc x e b4 := hT.trans (bind_step e)
    obtain ⟨rfl, hx, _⟩ := hu
    have G5 := G3.rd kp
    clear hT h2 l2 e G3 S3 kp
    refine ⟨[.int .i64 (x : Int)], rfl, rfl, ?_⟩
    refine Sx.sat_qcall (p := s5.bind (qnum 4194304)) S5 #[.pointer (some ⟨g, 0, none⟩), .int .i64 4194304] (by kernel_rfl) (fun w2 h2 W2 => qnum_any g s5 4194304 (by omega) _ W2) (fun w2 o6 q s6 u e h2 l2 hu S6 kp _ => ?_)
    have hT6 : o.bind qdy = s6.bind (qdyT acc x q) := hT5.trans (bind_step e)
    obtain ⟨rfl, hq⟩ := hu
    have G6 := G5.rd kp
    clear hT5 h2 l2 e G5 S5 kp
    refine ⟨[.int .i64 (q : Int)], rfl, rfl, ?_⟩
    refine sat_prim (v := .bool (((x : Nat) : Int) == 1)) (by kernel_rfl) ?_
    have ex : (((x : Nat) : Int) == 1) = (x == 1) := by
      by_cases h : x = 1
      · subst h; rfl
      · rw [beq_eq_false_iff_ne.2 (by omega), beq_eq_false_iff_ne.2 h]
    rw [ex]
    refine sat_chkB (by kernel_rfl) ?_
    refine sat_prim (v := .int .i64 ((q / 2 : Nat) : Int)) (Eq.trans (b := some (.int .i64 (IntKind.i64.wrap (((q : Nat) : Int).tdiv 2)))) (by kernel_rfl) (sml (by rw [Int.tdiv_eq_ediv_of_nonneg (by omega)]; omega) (by omega))) ?_
    refine sat_chkB (by kernel_rfl) ?_
    refine sat_prim (v := .int .i64 ((q % 2 : Nat) : Int)) (Eq.trans (by kernel_rfl) (and_bit hq)) ?_
    refine sat_prim (v := .bool (((q % 2 : Nat) : Int) == 1)) (by kernel_rfl) ?_
    have rdd : ∀ (z : Int) (w9 : Sx.OW), Sx.GnN (Sx.rfr Sx.nkM rfl w g) w9 (.slice A acc.length c) acc g → expo q = z → -9000000 ≤ z → z ≤ 9000000 → RdD w9.toWorld (.agg #[.bool (x == 1), .slice A acc.length c, .int .i64 z]) ⟨x == 1, acc, z⟩ := by
      rintro z w9 G9 _ z1 z2
      exact ⟨A, acc.length, c, rfl, RdN.of_own G9.row.row, hlim, (show (-9223372036854775808 : Int) ≤ z by omega), (show z ≤ (9223372036854775807 : Int) by omega)⟩
    have fin : ∀ (z : Int) (s9 : Option (List Nat)) (w9 : Sx.OW), Sx.RqS 94 (Sx.rfr Sx.nkM rfl w g) w9 g s9 → Sx.GnN (Sx.rfr Sx.nkM rfl w g) w9 (.slice A acc.length c) acc g → expo q = z → -9000000 ≤ z → z ≤ 9000000 → (o.bind qdy = s9.map fun b => ((⟨x == 1, acc, z⟩ : Dy), b)) → ∃ x' o', o.bind qdy = o'.map (fun b => (x', b)) ∧ RvD w x' w9.toWorld (.agg #[.bool (x == 1), .slice A acc.length c, .int .i64 z]) ∧ Sx.RqW 94 w9.toWorld g o' := by
      rintro z s9 w9 S9 G9 he z1 z2 hS
      exact ⟨_, s9, hS, ⟨A, acc.length, c, rfl, rdd z w9 G9 he z1 z2⟩, S9.rd⟩
    by_cases ho : q % 2 = 1
    · have hz : expo q = -((q / 2 : Nat) : Int) - 1 := by unfold expo; rw [decide_eq_true ho]; rfl
      refine sat_trueP (b := (((q % 2 : Nat) : Int) == 1)) (by kernel_rfl) (by rw [ho]; rfl) ?_
      refine sat_prim (v := .int .i64 ((q + 1 : Nat) : Int)) (Eq.trans (b := some (.int .i64 (IntKind.i64.wrap (((q : Nat) : Int) + 1)))) (by kernel_rfl) (sml (by omega) (by omega))) ?_
      refine sat_prim (v := .int .i64 (-((q + 1 : Nat) : Int))) (Eq.trans (b := some (.int .i64 (IntKind.i64.wrap (0 - ((q + 1 : Nat) : Int))))) (by kernel_rfl) (sml (by omega) (by omega))) ?_
      refine sat_prim (v := .int .i64 (-((q / 2 : Nat) : Int) - 1)) (Eq.trans (b := some (.int .i64 (IntKind.i64.wrap ((-((q + 1 : Nat) : Int)).tdiv 2)))) (by kernel_rfl) (sml (by rw [Int.neg_tdiv, Int.tdiv_eq_ediv_of_nonneg (by omega)]; omega) (by omega))) ?_
      refine sat_chkB (by kernel_rfl) ?_
      generalize hZ : -((q / 2 : Nat) : Int) - 1 = z at *
      have z1 : -9000000 ≤ z := by omega
      have z2 : z ≤ 9000000 := by omega
      refine sat_prim (v := .bool (decide ((1 : Int) < ((x : Nat) : Int)))) (by kernel_rfl) ?_
      by_cases c1 : 1 < x
      · refine sat_trueP (b := decide ((1 : Int) < ((x : Nat) : Int))) (by kernel_rfl) (decide_eq_true (by omega)) ?_
        refine Sx.sat_setbad S6 (by kernel_rfl) (by kernel_rfl) (by kernel_rfl) fun ow h1 kp S7 => ?_
        refine sat_chkB (by kernel_rfl) ?_
        exact sat_ret (.agg #[.bool (x == 1), .slice A acc.length c, .int .i64 z]) (by kernel_rfl) fun w9 h9 => fin z none _ (S7.le h9) ((G6.rd kp).le h9) hz z1 z2 (by rw [hT6]; exact bind_no fun b => qdyT_no (.inl c1) b)
      · refine sat_falseP (b := decide ((1 : Int) < ((x : Nat) : Int))) (by kernel_rfl) (decide_eq_false (by omega)) ?_
        refine sat_call #[.agg #[.bool (x == 1), .slice A acc.length c, .int .i64 z]] (by kernel_rfl) fun w7 h7 => ?_
        refine (rmayD_any _ ⟨x == 1, acc, z⟩ _ (rdd z _ (G6.le h7) hz z1 z2)).mono ?_
        rintro e v7 ⟨rfl, hb7⟩
        refine ⟨hb7, [.bool (mayD ⟨x == 1, acc, z⟩)], _, rfl, by kernel_rfl, by kernel_rfl, fun g7 => ?_⟩
        have G7 := G6.le g7
        have S7 := S6.le g7
        clear h7 hb7 G6 S6
        refine sat_prim (v := .bool (!(mayD ⟨x == 1, acc, z⟩))) (by kernel_rfl) ?_
        cases hm : mayD ⟨x == 1, acc, z⟩
        · refine sat_true (by kernel_rfl) ?_
          refine Sx.sat_setbad S7 (by kernel_rfl) (by kernel_rfl) (by kernel_rfl) fun ow h1 kp S8 => ?_
          refine sat_chkB (by kernel_rfl) ?_
          exact sat_ret (.agg #[.bool (x == 1), .slice A acc.length c, .int .i64 z]) (by kernel_rfl) fun w9 h9 => fin z none _ (S8.le h9) ((G7.rd kp).le h9) hz z1 z2 (by rw [hT6]; exact bind_no fun b => qdyT_no (.inr (by rw [hz]; exact hm)) b)
        · refine sat_false (by kernel_rfl) ?_
          refine sat_chkB (by kernel_rfl) ?_
          exact sat_ret (.agg #[.bool (x == 1), .slice A acc.length c, .int .i64 z]) (by kernel_rfl) fun w9 h9 => fin z s6 _ (S7.le h9) (G7.le h9) hz z1 z2 (by
            rw [hT6, ← bind_end]
            congr 1
            funext b
            exact qdyT_may (d := ⟨x == 1, acc, z⟩) hm (by omega) rfl hz b)
    · have hz : expo q = ((q / 2 : Nat) : Int) := by unfold expo; rw [decide_eq_false ho]; rfl
      refine sat_falseP (b := (((q % 2 : Nat) : Int) == 1)) (by kernel_rfl) (beq_eq_false_iff_ne.2 (by omega)) ?_
      generalize hZ : ((q / 2 : Nat) : Int) = z at *
      have z1 : -9000000 ≤ z := by omega
      have z2 : z ≤ 9000000 := by omega
      refine sat_prim (v := .bool (decide ((1 : Int) < ((x : Nat) : Int)))) (by kernel_rfl) ?_
      by_cases c1 : 1 < x
      · refine sat_trueP (b := decide ((1 : Int) < ((x : Nat) : Int))) (by kernel_rfl) (decide_eq_true (by omega)) ?_
        refine Sx.sat_setbad S6 (by kernel_rfl) (by kernel_rfl) (by kernel_rfl) fun ow h1 kp S7 => ?_
        refine sat_chkB (by kernel_rfl) ?_
        exact sat_ret (.agg #[.bool (x == 1), .slice A acc.length c, .int .i64 z]) (by kernel_rfl) fun w9 h9 => fin z none _ (S7.le h9) ((G6.rd kp).le h9) hz z1 z2 (by rw [hT6]; exact bind_no fun b => qdyT_no (.inl c1) b)
      · refine sat_falseP (b := decide ((1 : Int) < ((x : Nat) : Int))) (by kernel_rfl) (decide_eq_false (by omega)) ?_
        refine sat_call #[.agg #[.bool (x == 1), .slice A acc.length c, .int .i64 z]] (by kernel_rfl) fun w7 h7 => ?_
        refine (rmayD_any _ ⟨x == 1, acc, z⟩ _ (rdd z _ (G6.le h7) hz z1 z2)).mono ?_
        rintro e v7 ⟨rfl, hb7⟩
        refine ⟨hb7, [.bool (mayD ⟨x == 1, acc, z⟩)], _, rfl, by kernel_rfl, by kernel_rfl, fun g7 => ?_⟩
        have G7 := G6.le g7
        have S7 := S6.le g7
        clear h7 hb7 G6 S6
        refine sat_prim (v := .bool (!(mayD ⟨x == 1, acc, z⟩))) (by kernel_rfl) ?_
        cases hm : mayD ⟨x == 1, acc, z⟩
        · refine sat_true (by kernel_rfl) ?_
          refine Sx.sat_setbad S7 (by kernel_rfl) (by kernel_rfl) (by kernel_rfl) fun ow h1 kp S8 => ?_
          refine sat_chkB (by kernel_rfl) ?_
          exact sat_ret (.agg #[.bool (x == 1), .slice A acc.length c, .int .i64 z]) (by kernel_rfl) fun w9 h9 => fin z none _ (S8.le h9) ((G7.rd kp).le h9) hz z1 z2 (by rw [hT6]; exact bind_no fun b => qdyT_no (.inr (by rw [hz]; exact hm)) b)
        · refine sat_false (by kernel_rfl) ?_
          refine sat_chkB (by kernel_rfl) ?_
          exact sat_ret (.agg #[.bool (x == 1), .slice A acc.length c, .int .i64 z]) (by kernel_rfl) fun w9 h9 => fin z s6 _ (S7.le h9) (G7.le h9) hz z1 z2 (by
            rw [hT6, ← bind_end]
            congr 1
            funext b
            exact qdyT_may (d := ⟨x == 1, acc, z⟩) hm (by omega) rfl hz b)

def tr_qiv : Sx.Tree := .call 57 [.one (.lf 0)] (.ag 3) (.chk [.lf 1, .lf 2, .lf 3] (.chk [.lf 1, .lf 2, .lf 3] (.call 57 [.one (.lf 0)] (.ag 3) (.chk [.lf 4, .lf 5, .lf 6] (.chk [.lf 1, .lf 2, .lf 3, .lf 4, .lf 5, .lf 6] (.ret (.ag [.lf 1, .lf 2, .lf 3, .lf 4, .lf 5, .lf 6])))))))
theorem tr_qiv_eq : Sx.treeEs Try.prog 58 [] [] [999999] [(false, 1)] = some tr_qiv := by kernel_rfl

theorem qiv_any (g : Nat) (o : Option (List Nat)) (w : World) (hW : Sx.RqW 94 w g o) : Calls Try.prog 58 #[.pointer (some ⟨g, 0, none⟩)] w (Sx.RqOut 94 w g (o.bind qiv) RvI) := by
  refine Sx.runQ Sx.nkI rfl rfl hW [] [999999] (ls := [.pointer (some ⟨g, 0, none⟩)]) (shs := [(false, 1)]) tr_qiv_eq rfl (by decide) fun S0 => ?_
  unfold tr_qiv
  refine Sx.sat_qcall (p := o.bind qdy) S0 #[.pointer (some ⟨g, 0, none⟩)] (by kernel_rfl) (fun w2 h2 W2 => qdy_any g o _ W2) (fun w2 o2 x s2 u e h2 l2 hu S2 _ _ => ?_)
  obtain ⟨A, n, c, rfl, hx⟩ := hu
  have hsp : o.bind qiv = s2.bind fun b => andP (qdy b) fun y b2 => some (⟨x, y⟩, b2) := bind_step e
  clear h2 l2 e
  refine ⟨[.bool x.neg, .slice A n c, .int .i64 x.e], rfl, rfl, ?_⟩
  refine sat_chkB (by kernel_rfl) ?_
  refine sat_chkB (by kernel_rfl) ?_
  refine Sx.sat_qcall (p := s2.bind qdy) S2 #[.pointer (some ⟨g, 0, none⟩)] (by kernel_rfl) (fun w2 h2 W2 => qdy_any g s2 _ W2) (fun w2 o3 y s3 u e h2 l3 hu S3 _ _ => ?_)
  obtain ⟨B, m, d, rfl, hy⟩ := hu
  replace hx := l3.rdD hx
  have hsp2 : o.bind qiv = s3.map fun b => ((⟨x, y⟩ : Iv), b) := by rw [hsp, bind_step e, bind_end]
  refine ⟨[.bool y.neg, .slice B m d, .int .i64 y.e], rfl, rfl, ?_⟩
  refine sat_chkB (by kernel_rfl) ?_
  refine sat_chkB (by kernel_rfl) ?_
  exact sat_ret (.agg #[.bool x.neg, .slice A n c, .int .i64 x.e, .bool y.neg, .slice B m d, .int .i64 y.e]) (by kernel_rfl) fun w9 h9 => ⟨_, _, hsp2, mkI (l := x) (h := y) (h9.rdD hx) (h9.rdD hy), (S3.le h9).rd⟩

def tr_qtb : Sx.Tree := .call 56 [.one (.lf 0), .one (.num .i64 256)] .one (.loop 0 [.num .i64 0, .nil, .nil] (.prim (.bin .leq) [.lf 2, .lf 1] (.ite (.lf 5) (.prim .nchk [.lf 0] (.prim (.fld 1) [.lf 6] (.loadm 4 (.lf 7) .one (.prim .not [.lf 8] (.ite (.lf 9) (.call 57 [.one (.lf 0)] (.ag 3) (.row 24 [.lf 10, .lf 11, .lf 12] 1 [] (.app 24 3 40 (.lf 3) (.lf 13) (.chk [.lf 14] (.prim (.bin .add) [.lf 2, .num .i64 1] (.back 0 [.lf 15, .lf 14, .lf 4])))))) (.loop 0 [.num .i64 0, .lf 3, .lf 4] (.prim (.bin .lss) [.lf 10, .lf 1] (.ite (.lf 13) (.prim .nchk [.lf 0] (.prim (.fld 1) [.lf 14] (.loadm 4 (.lf 15) .one (.prim .not [.lf 16] (.ite (.lf 17) (.call 58 [.one (.lf 0)] (.ag 6) (.row 61 [.lf 18, .lf 19, .lf 20, .lf 21, .lf 22, .lf 23] 1 [] (.app 61 6 80 (.lf 12) (.lf 24) (.chk [.lf 25] (.prim (.bin .add) [.lf 10, .num .i64 1] (.back 0 [.lf 26, .lf 11, .lf 25])))))) (.chk [.lf 11, .lf 12] (.ret (.ag [.lf 11, .lf 12])))))))) (.chk [.lf 11, .lf 12] (.ret (.ag [.lf 11, .lf 12]))))))))))) (.loop 0 [.num .i64 0, .lf 3, .lf 4] (.prim (.bin .lss) [.lf 6, .lf 1] (.ite (.lf 9) (.prim .nchk [.lf 0] (.prim (.fld 1) [.lf 10] (.loadm 4 (.lf 11) .one (.prim .not [.lf 12] (.ite (.lf 13) (.call 58 [.one (.lf 0)] (.ag 6) (.row 61 [.lf 14, .lf 15, .lf 16, .lf 17, .lf 18, .lf 19] 1 [] (.app 61 6 80 (.lf 8) (.lf 20) (.chk [.lf 21] (.prim (.bin .add) [.lf 6, .num .i64 1] (.back 0 [.lf 22, .lf 7, .lf 21])))))) (.chk [.lf 7, .lf 8] (.ret (.ag [.lf 7, .lf 8])))))))) (.chk [.lf 7, .lf 8] (.ret (.ag [.lf 7, .lf 8])))))))))
theorem tr_qtb_eq : Sx.treeEs Try.prog 59 [] [1] [999999] [(false, 1)] = some tr_qtb := by kernel_rfl

theorem qtb_any (g : Nat) (o : Option (List Nat)) (w : World) (hW : Sx.RqW 94 w g o) : Calls Try.prog 59 #[.pointer (some ⟨g, 0, none⟩)] w (Sx.RqOut 94 w g (o.bind qtb) RvT) := by
  refine Sx.runQ Sx.nkI rfl rfl hW [1] [999999] (ls := [.pointer (some ⟨g, 0, none⟩)]) (shs := [(false, 1)]) tr_qtb_eq rfl (by decide) fun S0 => ?_
  unfold tr_qtb
  refine Sx.sat_qcall (p := o.bind (qnum 256)) S0 #[.pointer (some ⟨g, 0, none⟩), .int .i64 256] (by kernel_rfl) (fun w2 h2 W2 => qnum_any g o 256 (by omega) _ W2) (fun w2 o2 n s2 u e h2 l2 hu S2 _ _ => ?_)
  obtain ⟨rfl, hn⟩ := hu
  have hsp : o.bind qtb = s2.bind fun b => andP (prep qdy (n + 1) [] b) fun p b2 => andP (prep qiv n [] b2) fun q b3 => some (⟨p, q⟩, b3) := bind_step e
  clear h2 l2 e
  refine ⟨[.int .i64 ((n : Nat) : Int)], rfl, rfl, ?_⟩
  refine sat_loop (fun Kn vs W => ∃ (i : Nat) (acc : List Dy) (s' : Option (List Nat)) (A : Option Addr) (c : Nat), vs = [.int .i64 ((i : Nat) : Int), .slice A acc.length c, .slice none 0 0] ∧ Kn = n + 1 - i ∧ i ≤ n + 1 ∧ acc.length = i ∧ Sx.RqS 94 (Sx.rfr Sx.nkI rfl w g) W g s' ∧ Sx.GrN (Sx.kF w.heap.size Sx.kD) (Sx.rfr Sx.nkI rfl w g) 24 W (.slice A acc.length c) acc g ∧ o.bind qtb = s'.bind fun b => andP (prep qdy (n + 1 - i) acc b) fun p b2 => andP (prep qiv n [] b2) fun q b3 => some (⟨p, q⟩, b3)) [.int .i64 0, .slice none 0 0, .slice none 0 0] (by kernel_rfl) (fun w1 h1 => ⟨_, 0, [], s2, none, 0, rfl, rfl, by omega, rfl, S2.le h1, ⟨Sx.Gr.nil (k := Sx.kF w.heap.size Sx.kD) (Nat.succ_pos _) _ _ _, fun e => by cases e⟩, hsp⟩) ?_
  rintro Kn vs w3 h3 ⟨i, acc, o3, A, c, rfl, rfl, hi, hacc, S3, G3, hsp3⟩
  clear hsp S2 h3
  refine sat_prim (v := .bool (decide (((i : Nat) : Int) ≤ ((n : Nat) : Int)))) (by kernel_rfl) ?_
  by_cases hin : i < n + 1
  · refine sat_trueP (b := decide (((i : Nat) : Int) ≤ ((n : Nat) : Int))) (by kernel_rfl) (decide_eq_true (by omega)) ?_
    refine Sx.sat_isbad S3 (by kernel_rfl) (by kernel_rfl) (by kernel_rfl) ?_
    refine sat_prim (v := .bool (!o3.isNone)) (by kernel_rfl) ?_
    cases hbd : o3.isNone
    · refine sat_true (by kernel_rfl) ?_
      obtain ⟨m, hm⟩ : ∃ m, n + 1 - i = m + 1 := ⟨n - i, by omega⟩
      have hsp4 : o.bind qtb = o3.bind fun b => andP (qdy b) fun x b' => andP (prep qdy m (acc ++ [x]) b') fun p b2 => andP (prep qiv n [] b2) fun q b3 => some (⟨p, q⟩, b3) := by
        rw [hsp3, hm]
        congr 1
        funext b
        exact andP_assoc
      refine Sx.sat_qcall (p := o3.bind qdy) S3 #[.pointer (some ⟨g, 0, none⟩)] (by kernel_rfl) (fun w2 h2 W2 => qdy_any g o3 _ W2) (fun w4 o4 x s4 u e h4 l4 hu S4 kp _ => ?_)
      have hsp5 := hsp4.trans (bind_step e)
      obtain ⟨C, k, d, rfl, r_x⟩ := hu
      have G4 := G3.rd l4 kp
      clear hsp3 hsp4 h4 l4 kp e S3 G3
      refine ⟨[.bool x.neg, .slice C k d, .int .i64 x.e], rfl, rfl, ?_⟩
      refine Sx.sat_qpush1 (k := Sx.kD) (j := 13) x [.bool x.neg, .slice C k d, .int .i64 x.e] G4 S4 (by kernel_rfl) (by kernel_rfl) (by intro y hy; cases hy) (fun r => by kernel_rfl) rfl (fun w' h' => ⟨C, k, d, rfl, h'.rdD r_x⟩) (by unfold maxLen; omega) (by omega) fun r A' c' o5 l5 _ S5 G5 => ?_
      refine sat_chkB (by kernel_rfl) ?_
      refine sat_prim (v := .int .i64 ((i + 1 : Nat) : Int)) (Eq.trans (b := some (.int .i64 (IntKind.i64.wrap (((i : Nat) : Int) + 1)))) (by kernel_rfl) (sml (by omega) (by omega))) ?_
      exact sat_back [.int .i64 ((i + 1 : Nat) : Int), .slice A' (acc ++ [x]).length c', .slice none 0 0] (by kernel_rfl) fun w9 h9 => ⟨_, by omega, i + 1, acc ++ [x], s4, A', c', rfl, rfl, by omega, by rw [List.length_append]; simp only [List.length_cons, List.length_nil]; omega, S5.le h9, G5.le h9, by rw [show n + 1 - (i + 1) = m by omega]; exact hsp5⟩
    · refine sat_false (by kernel_rfl) ?_
      obtain rfl := isNone_none hbd
      have hT : o.bind qtb = (none : Option (List Nat)).bind fun b => andP (prep qiv (n - 0) [] b) fun q b3 => some ((⟨acc, q⟩ : Tb), b3) := hsp3
      clear hsp3 hbd
      generalize hO3 : (none : Option (List Nat)) = o3 at *
      refine sat_loop (fun Kn vs W => ∃ (k : Nat) (aq : List Iv) (s' : Option (List Nat)) (B : Option Addr) (d : Nat), vs = [.int .i64 ((k : Nat) : Int), .slice A acc.length c, .slice B aq.length d] ∧ Kn = n - k ∧ k ≤ n ∧ aq.length = k ∧ Sx.RqS 94 (Sx.rfr Sx.nkI rfl w g) W g s' ∧ Sx.GrN (Sx.kF w.heap.size Sx.kD) (Sx.rfr Sx.nkI rfl w g) 24 W (.slice A acc.length c) acc g ∧ Sx.GrN (Sx.kF w.heap.size Sx.kI) (Sx.rfr Sx.nkI rfl w g) 61 W (.slice B aq.length d) aq g ∧ Sx.Apart (.slice B aq.length d) (.slice A acc.length c) ∧ o.bind qtb = s'.bind fun b => andP (prep qiv (n - k) aq b) fun q b3 => some (⟨acc, q⟩, b3)) [.int .i64 0, .slice A acc.length c, .slice none 0 0] (by kernel_rfl) (fun w1 h1 => ⟨_, 0, [], o3, none, 0, rfl, rfl, by omega, rfl, S3.le h1, G3.le h1, ⟨Sx.Gr.nil (k := Sx.kF w.heap.size Sx.kI) (Nat.succ_pos _) _ _ _, fun e => by cases e⟩, fun q hq => (by cases hq), hT⟩) ?_
      rintro Kn vs w4 h4 ⟨k, aq, o4, B, d, rfl, rfl, hk, haq, S4, G4, H4, D4, hsp5⟩
      clear hT h4 S3 G3
      refine sat_prim (v := .bool (decide (((k : Nat) : Int) < ((n : Nat) : Int)))) (by kernel_rfl) ?_
      have fin : ∀ (w9 : Sx.OW), Sx.Le (Sx.rfr Sx.nkI rfl w g) w4 w9 → (o.bind qtb = o4.map fun b => ((⟨acc, aq⟩ : Tb), b)) → ∃ x' o', o.bind qtb = o'.map (fun b => (x', b)) ∧ RvT w x' w9.toWorld (.agg #[.slice A acc.length c, .slice B aq.length d]) ∧ Sx.RqW 94 w9.toWorld g o' := fun w9 h9 hS => ⟨_, o4, hS, ⟨A, c, B, d, rfl, (G4.le h9).done, (H4.le h9).done⟩, (S4.le h9).rd⟩
      by_cases hkn : k < n
      · refine sat_trueP (b := decide (((k : Nat) : Int) < ((n : Nat) : Int))) (by kernel_rfl) (decide_eq_true (by omega)) ?_
        refine Sx.sat_isbad S4 (by kernel_rfl) (by kernel_rfl) (by kernel_rfl) ?_
        refine sat_prim (v := .bool (!o4.isNone)) (by kernel_rfl) ?_
        cases hbd : o4.isNone
        · refine sat_true (by kernel_rfl) ?_
          obtain ⟨m, hm⟩ : ∃ m, n - k = m + 1 := ⟨n - k - 1, by omega⟩
          have hsp6 : o.bind qtb = o4.bind fun b => andP (qiv b) fun x b' => andP (prep qiv m (aq ++ [x]) b') fun q b3 => some (⟨acc, q⟩, b3) := by
            rw [hsp5, hm]
            congr 1
            funext b
            exact andP_assoc
          refine Sx.sat_qcall (p := o4.bind qiv) S4 #[.pointer (some ⟨g, 0, none⟩)] (by kernel_rfl) (fun w2 h2 W2 => qiv_any g o4 _ W2) (fun w5 o5 x s5 u e h5 l5 hu S5 kp _ => ?_)
          have hsp7 := hsp6.trans (bind_step e)
          obtain ⟨C1, k1, d1, C2, k2, d2, rfl, r_x1, r_x2⟩ := hu
          have G5 := G4.rd l5 kp
          have H5 := H4.rd l5 kp
          clear hsp5 hsp6 h5 l5 kp e S4 G4 H4 fin
          refine ⟨[.bool x.lo.neg, .slice C1 k1 d1, .int .i64 x.lo.e, .bool x.hi.neg, .slice C2 k2 d2, .int .i64 x.hi.e], rfl, rfl, ?_⟩
          refine Sx.sat_qpush1 (k := Sx.kI) (j := 24) x [.bool x.lo.neg, .slice C1 k1 d1, .int .i64 x.lo.e, .bool x.hi.neg, .slice C2 k2 d2, .int .i64 x.hi.e] H5 S5 (by kernel_rfl) (by kernel_rfl) (by intro y hy; cases hy) (fun r => by kernel_rfl) rfl (fun w' h' => ⟨C1, k1, d1, C2, k2, d2, rfl, h'.rdD r_x1, h'.rdD r_x2⟩) (by unfold maxLen; omega) (by omega) fun r B' d' o6 l6 oth S6 H6 => ?_
          obtain ⟨G6, D6⟩ := oth G5 D4
          refine sat_chkB (by kernel_rfl) ?_
          refine sat_prim (v := .int .i64 ((k + 1 : Nat) : Int)) (Eq.trans (b := some (.int .i64 (IntKind.i64.wrap (((k : Nat) : Int) + 1)))) (by kernel_rfl) (sml (by omega) (by omega))) ?_
          exact sat_back [.int .i64 ((k + 1 : Nat) : Int), .slice A acc.length c, .slice B' (aq ++ [x]).length d'] (by kernel_rfl) fun w9 h9 => ⟨_, by omega, k + 1, aq ++ [x], s5, B', d', rfl, rfl, by omega, by rw [List.length_append]; simp only [List.length_cons, List.length_nil]; omega, S6.le h9, G6.le h9, H6.le h9, D6, by rw [show n - (k + 1) = m by omega]; exact hsp7⟩
        · refine sat_false (by kernel_rfl) ?_
          obtain rfl := isNone_none hbd
          refine sat_chkB (by kernel_rfl) ?_
          exact sat_ret (.agg #[.slice A acc.length c, .slice B aq.length d]) (by kernel_rfl) fun w9 h9 => fin _ h9 hsp5
      · refine sat_falseP (b := decide (((k : Nat) : Int) < ((n : Nat) : Int))) (by kernel_rfl) (decide_eq_false (by omega)) ?_
        refine sat_chkB (by kernel_rfl) ?_
        exact sat_ret (.agg #[.slice A acc.length c, .slice B aq.length d]) (by kernel_rfl) fun w9 h9 => fin _ h9 (by rw [hsp5, show n - k = 0 by omega]; exact bind_end)
  · refine sat_falseP (b := decide (((i : Nat) : Int) ≤ ((n : Nat) : Int))) (by kernel_rfl) (decide_eq_false (by omega)) ?_
    have hT : o.bind qtb = o3.bind fun b => andP (prep qiv (n - 0) [] b) fun q b3 => some ((⟨acc, q⟩ : Tb), b3) := by rw [hsp3, show n + 1 - i = 0 by omega]; rfl
    clear hsp3
    refine sat_loop (fun Kn vs W => ∃ (k : Nat) (aq : List Iv) (s' : Option (List Nat)) (B : Option Addr) (d : Nat), vs = [.int .i64 ((k : Nat) : Int), .slice A acc.length c, .slice B aq.length d] ∧ Kn = n - k ∧ k ≤ n ∧ aq.length = k ∧ Sx.RqS 94 (Sx.rfr Sx.nkI rfl w g) W g s' ∧ Sx.GrN (Sx.kF w.heap.size Sx.kD) (Sx.rfr Sx.nkI rfl w g) 24 W (.slice A acc.length c) acc g ∧ Sx.GrN (Sx.kF w.heap.size Sx.kI) (Sx.rfr Sx.nkI rfl w g) 61 W (.slice B aq.length d) aq g ∧ Sx.Apart (.slice B aq.length d) (.slice A acc.length c) ∧ o.bind qtb = s'.bind fun b => andP (prep qiv (n - k) aq b) fun q b3 => some (⟨acc, q⟩, b3)) [.int .i64 0, .slice A acc.length c, .slice none 0 0] (by kernel_rfl) (fun w1 h1 => ⟨_, 0, [], o3, none, 0, rfl, rfl, by omega, rfl, S3.le h1, G3.le h1, ⟨Sx.Gr.nil (k := Sx.kF w.heap.size Sx.kI) (Nat.succ_pos _) _ _ _, fun e => by cases e⟩, fun q hq => (by cases hq), hT⟩) ?_
    rintro Kn vs w4 h4 ⟨k, aq, o4, B, d, rfl, rfl, hk, haq, S4, G4, H4, D4, hsp5⟩
    clear hT h4 S3 G3
    refine sat_prim (v := .bool (decide (((k : Nat) : Int) < ((n : Nat) : Int)))) (by kernel_rfl) ?_
    have fin : ∀ (w9 : Sx.OW), Sx.Le (Sx.rfr Sx.nkI rfl w g) w4 w9 → (o.bind qtb = o4.map fun b => ((⟨acc, aq⟩ : Tb), b)) → ∃ x' o', o.bind qtb = o'.map (fun b => (x', b)) ∧ RvT w x' w9.toWorld (.agg #[.slice A acc.length c, .slice B aq.length d]) ∧ Sx.RqW 94 w9.toWorld g o' := fun w9 h9 hS => ⟨_, o4, hS, ⟨A, c, B, d, rfl, (G4.le h9).done, (H4.le h9).done⟩, (S4.le h9).rd⟩
    by_cases hkn : k < n
    · refine sat_trueP (b := decide (((k : Nat) : Int) < ((n : Nat) : Int))) (by kernel_rfl) (decide_eq_true (by omega)) ?_
      refine Sx.sat_isbad S4 (by kernel_rfl) (by kernel_rfl) (by kernel_rfl) ?_
      refine sat_prim (v := .bool (!o4.isNone)) (by kernel_rfl) ?_
      cases hbd : o4.isNone
      · refine sat_true (by kernel_rfl) ?_
        obtain ⟨m, hm⟩ : ∃ m, n - k = m + 1 := ⟨n - k - 1, by omega⟩
        have hsp6 : o.bind qtb = o4.bind fun b => andP (qiv b) fun x b' => andP (prep qiv m (aq ++ [x]) b') fun q b3 => some (⟨acc, q⟩, b3) := by
          rw [hsp5, hm]
          congr 1
          funext b
          exact andP_assoc
        refine Sx.sat_qcall (p := o4.bind qiv) S4 #[.pointer (some ⟨g, 0, none⟩)] (by kernel_rfl) (fun w2 h2 W2 => qiv_any g o4 _ W2) (fun w5 o5 x s5 u e h5 l5 hu S5 kp _ => ?_)
        have hsp7 := hsp6.trans (bind_step e)
        obtain ⟨C1, k1, d1, C2, k2, d2, rfl, r_x1, r_x2⟩ := hu
        have G5 := G4.rd l5 kp
        have H5 := H4.rd l5 kp
        clear hsp5 hsp6 h5 l5 kp e S4 G4 H4 fin
        refine ⟨[.bool x.lo.neg, .slice C1 k1 d1, .int .i64 x.lo.e, .bool x.hi.neg, .slice C2 k2 d2, .int .i64 x.hi.e], rfl, rfl, ?_⟩
        refine Sx.sat_qpush1 (k := Sx.kI) (j := 20) x [.bool x.lo.neg, .slice C1 k1 d1, .int .i64 x.lo.e, .bool x.hi.neg, .slice C2 k2 d2, .int .i64 x.hi.e] H5 S5 (by kernel_rfl) (by kernel_rfl) (by intro y hy; cases hy) (fun r => by kernel_rfl) rfl (fun w' h' => ⟨C1, k1, d1, C2, k2, d2, rfl, h'.rdD r_x1, h'.rdD r_x2⟩) (by unfold maxLen; omega) (by omega) fun r B' d' o6 l6 oth S6 H6 => ?_
        obtain ⟨G6, D6⟩ := oth G5 D4
        refine sat_chkB (by kernel_rfl) ?_
        refine sat_prim (v := .int .i64 ((k + 1 : Nat) : Int)) (Eq.trans (b := some (.int .i64 (IntKind.i64.wrap (((k : Nat) : Int) + 1)))) (by kernel_rfl) (sml (by omega) (by omega))) ?_
        exact sat_back [.int .i64 ((k + 1 : Nat) : Int), .slice A acc.length c, .slice B' (aq ++ [x]).length d'] (by kernel_rfl) fun w9 h9 => ⟨_, by omega, k + 1, aq ++ [x], s5, B', d', rfl, rfl, by omega, by rw [List.length_append]; simp only [List.length_cons, List.length_nil]; omega, S6.le h9, G6.le h9, H6.le h9, D6, by rw [show n - (k + 1) = m by omega]; exact hsp7⟩
      · refine sat_false (by kernel_rfl) ?_
        obtain rfl := isNone_none hbd
        refine sat_chkB (by kernel_rfl) ?_
        exact sat_ret (.agg #[.slice A acc.length c, .slice B aq.length d]) (by kernel_rfl) fun w9 h9 => fin _ h9 hsp5
    · refine sat_falseP (b := decide (((k : Nat) : Int) < ((n : Nat) : Int))) (by kernel_rfl) (decide_eq_false (by omega)) ?_
      refine sat_chkB (by kernel_rfl) ?_
      exact sat_ret (.agg #[.slice A acc.length c, .slice B aq.length d]) (by kernel_rfl) fun w9 h9 => fin _ h9 (by rw [hsp5, show n - k = 0 by omega]; exact bind_end)

end Go.Proofs.Ytpkfjfpknbhekaa
namespace Go.Proofs.Ytpkfjfpknbhekaa
open Go.RowKit Pl
open Sx (sat_call sat_chk sat_prim sat_ite sat_true sat_false sat_trueP sat_falseP sat_ret sat_row sat_callP sat_loop sat_back sat_idx sat_el sat_elf sat_elc sat_load sat_rowN sat_app sat_callB sat_alt rows_one rows_two all_nil all_cons okB okS okI)

namespace Sx
/-- Rows as values. -/
def kS (α : Type) : Kind (Value × List α) where
  sz := 1
  ik := .i64
  El _ _ cs p := cs = [p.1] ∧ ∃ A c, p.1 = .slice A p.2.length c
  len := by rintro _ _ _ _ ⟨rfl, _⟩; rfl
  mv := fun _ h => h
  okc := by
    rintro _ _ _ _ ⟨rfl, A, c, h⟩ u hu
    obtain rfl := List.mem_singleton.1 hu
    rw [h]
    exact ⟨rfl, fun K n e => by cases e⟩
/-- A row of finished rows, all of the call's own making. -/
structure Bx {α : Type} (k : Kind α) (e eo : TypeId) (bb : Nat) (w0 : Fr) (W : OW) (v : Value) (l : List (Value × List α)) (g : Nat) : Prop where
  gr : GrN (kF bb (kS α)) w0 eo W v l g
  el : ∀ p ∈ l, GrN (kF bb k) w0 e W p.1 p.2 g ∧ Apart v p.1
def ApX {α : Type} (s v : Value) (l : List (Value × List α)) : Prop := Apart s v ∧ ∀ p ∈ l, Apart s p.1
theorem ApX.nil {α : Type} {v : Value} {l : List (Value × List α)} : ApX (.slice none 0 0) v l := ⟨fun _ h => (by cases h), fun _ _ _ h => by cases h⟩
section
variable {α : Type} {k : Kind α} {e eo : TypeId} {bb : Nat} {w0 : Fr} {W W' : OW} {v : Value} {l : List (Value × List α)} {g : Nat}
theorem Bx.le (h : Bx k e eo bb w0 W v l g) (hl : Le w0 W W') : Bx k e eo bb w0 W' v l g := ⟨h.gr.le hl, fun p hp => ⟨(h.el p hp).1.le hl, (h.el p hp).2⟩⟩
theorem Bx.rd (h : Bx k e eo bb w0 W v l g) (hl : Lf w0 W W') (hk : Kept W W' g) : Bx k e eo bb w0 W' v l g := ⟨h.gr.rd hl hk, fun p hp => ⟨(h.el p hp).1.rd hl hk, (h.el p hp).2⟩⟩
abbrev Oth (w0 : Fr) (W ow : OW) (s s' : Value) (g : Nat) : Prop := ∀ {β : Type} {k2 : Kind β} {e2 : TypeId} {s2 : Value} {l2 : List β}, GrN k2 w0 e2 W s2 l2 g → Apart s s2 → GrN k2 w0 e2 ow s2 l2 g ∧ Apart s' s2
theorem Bx.oth {s s' : Value} (h : Bx k e eo bb w0 W v l g) (ho : Oth w0 W W' s s' g) (ha : ApX s v l) : Bx k e eo bb w0 W' v l g ∧ ApX s' v l := by
  obtain ⟨h1, h2⟩ := ho h.gr ha.1
  exact ⟨⟨h1, fun p hp => ⟨(ho (h.el p hp).1 (ha.2 p hp)).1, (h.el p hp).2⟩⟩, h2, fun p hp => (ho (h.el p hp).1 (ha.2 p hp)).2⟩
theorem Bx.push {v' s : Value} {row : List α} (h : Bx k e eo bb w0 W v l g) (ho : Oth w0 W W' v v' g) (hr : GrN (kF bb k) w0 e W s row g) (ha : ApX s v l) (hG : GrN (kF bb (kS α)) w0 eo W' v' (l ++ [(s, row)]) g) : Bx k e eo bb w0 W' v' (l ++ [(s, row)]) g := by
  refine ⟨hG, fun p hp => ?_⟩
  rcases List.mem_append.1 hp with hp | hp
  · exact ho (h.el p hp).1 (h.el p hp).2
  · obtain rfl := List.mem_singleton.1 hp
    exact ho hr ha.1.symm
theorem GrN.doneW {w : World} {ow : OW} {e : TypeId} {A : Option Addr} {n c : Nat} {l : List α} (h : GrN (kF w.heap.size k) (w : Fr) e ow (.slice A n c) l g) : Rows k (fun q => w.heap.size ≤ q) ow.toWorld A n c l :=
  (h.gr.done (fun {w' cs x} q => k.mv (Mv.weak (ok' := fun q => w.heap.size ≤ q ∧ w.heap.size ≤ q) fun _ _ hq => ⟨hq.1, hq.1⟩) q)).ofF
theorem Bx.done {w : World} {A : Option Addr} {n c : Nat} (h : Bx k e eo w.heap.size (w : Fr) W (.slice A n c) l g) : Rows (kL k) (fun q => w.heap.size ≤ q) W.toWorld A (l.map (·.2)).length c (l.map (·.2)) := by
  have R := h.gr.doneW
  have hl := R.len
  refine ⟨rfl, by rw [List.length_map, hl]; exact R.cap, R.max, R.pl, fun hn => ?_⟩
  obtain ⟨b, off, h1, h2, h3, h4⟩ := R.at_ (by rw [List.length_map] at hn; omega)
  refine ⟨b, off, h1, h2, h3, fun i x hx => ?_⟩
  rw [List.getElem?_map] at hx
  obtain ⟨p, hp, rfl⟩ := Option.map_eq_some_iff.1 hx
  obtain ⟨cs, ⟨rfl, A', c', e1⟩, e2⟩ := h4 i p hp
  have hg := (h.el p (List.mem_of_getElem? hp)).1
  rw [e1] at hg
  exact ⟨[p.1], ⟨A', c', by rw [e1], hg.doneW⟩, e2⟩
end
end Sx
theorem bind_row {α Y : Type} {o o' : Option (List Nat)} {most n : Nat} {p : List Nat → Option (α × List Nat)} {f : List α → List Nat → Option Y} (h : o.bind (qnum most) = o'.map fun b => (n, b)) : (o.bind fun b => andP (qrow most p b) f) = o'.bind fun b => andP (prep p n [] b) f := by
  refine Eq.trans ?_ (bind_step (f := fun n b => andP (prep p n [] b) f) h)
  congr 1
  funext b
  exact andP_assoc
theorem bind_prep {α Y : Type} {o : Option (List Nat)} {m n : Nat} {p : List Nat → Option (α × List Nat)} {acc : List α} {f : List α → List Nat → Option Y} (h : n = m + 1) : (o.bind fun b => andP (prep p n acc b) f) = o.bind fun b => andP (p b) fun x b' => andP (prep p m (acc ++ [x]) b') f := by
  subst h
  congr 1
  funext b
  exact andP_assoc

def tr_qget : Sx.Tree := .chk [.lf 0] (.chk [.lf 0] (.newf 94 [.lf 0, .bit false] (.call 56 [.one (.lf 1), .one (.num .i64 200)] .one (.chk [.lf 2] (.chk [.lf 2] (.call 56 [.one (.lf 1), .one (.num .i64 1073741824)] .one (.chk [.lf 3] (.call 56 [.one (.lf 1), .one (.num .i64 200)] .one (.chk [.lf 4] (.call 57 [.one (.lf 1)] (.ag 3) (.chk [.lf 5, .lf 6, .lf 7] (.call 57 [.one (.lf 1)] (.ag 3) (.chk [.lf 8, .lf 9, .lf 10] (.call 56 [.one (.lf 1), .one (.num .i64 16)] .one (.loop 0 [.num .i64 0, .lf 2, .lf 3, .lf 4, .lf 5, .lf 6, .lf 7, .lf 8, .lf 9, .lf 10, .nil, .nil] (.prim (.bin .lss) [.lf 12, .lf 11] (.ite (.lf 24) (.prim .nchk [.lf 1] (.prim (.fld 1) [.lf 25] (.loadm 4 (.lf 26) .one (.prim .not [.lf 27] (.ite (.lf 28) (.call 56 [.one (.lf 1), .one (.num .i64 64)] .one (.loop 1 [.num .i64 0, .nil, .lf 13, .lf 14, .lf 15, .lf 16, .lf 17, .lf 18, .lf 19, .lf 20, .lf 21, .lf 22, .lf 23] (.prim (.bin .lss) [.lf 30, .lf 29] (.ite (.lf 43) (.prim .nchk [.lf 1] (.prim (.fld 1) [.lf 44] (.loadm 4 (.lf 45) .one (.prim .not [.lf 46] (.ite (.lf 47) (.call 58 [.one (.lf 1)] (.ag 6) (.row 61 [.lf 48, .lf 49, .lf 50, .lf 51, .lf 52, .lf 53] 1 [] (.app 61 6 80 (.lf 31) (.lf 54) (.prim (.bin .add) [.lf 30, .num .i64 1] (.back 1 [.lf 56, .lf 55, .lf 32, .lf 33, .lf 34, .lf 35, .lf 36, .lf 37, .lf 38, .lf 39, .lf 40, .lf 41, .lf 42]))))) (.row 45 [.lf 31] 1 [.lf 31] (.app 45 1 24 (.lf 41) (.lf 48) (.chk [.lf 49] (.prim (.bin .add) [.lf 12, .num .i64 1] (.back 0 [.lf 50, .lf 32, .lf 33, .lf 34, .lf 35, .lf 36, .lf 37, .lf 38, .lf 39, .lf 40, .lf 49, .lf 42])))))))))) (.row 45 [.lf 31] 1 [.lf 31] (.app 45 1 24 (.lf 41) (.lf 44) (.chk [.lf 45] (.prim (.bin .add) [.lf 12, .num .i64 1] (.back 0 [.lf 46, .lf 32, .lf 33, .lf 34, .lf 35, .lf 36, .lf 37, .lf 38, .lf 39, .lf 40, .lf 45, .lf 42]))))))))) (.call 56 [.one (.lf 1), .one (.num .i64 16)] .one (.loop 0 [.num .i64 0, .lf 13, .lf 14, .lf 15, .lf 16, .lf 17, .lf 18, .lf 19, .lf 20, .lf 21, .lf 22, .lf 23] (.prim (.bin .lss) [.lf 30, .lf 29] (.ite (.lf 42) (.prim .nchk [.lf 1] (.prim (.fld 1) [.lf 43] (.loadm 4 (.lf 44) .one (.prim .not [.lf 45] (.ite (.lf 46) (.call 56 [.one (.lf 1), .one (.num .i64 64)] .one (.loop 1 [.num .i64 0, .nil, .lf 31, .lf 32, .lf 33, .lf 34, .lf 35, .lf 36, .lf 37, .lf 38, .lf 39, .lf 40, .lf 41] (.prim (.bin .lss) [.lf 48, .lf 47] (.ite (.lf 61) (.prim .nchk [.lf 1] (.prim (.fld 1) [.lf 62] (.loadm 4 (.lf 63) .one (.prim .not [.lf 64] (.ite (.lf 65) (.call 59 [.one (.lf 1)] (.ag 2) (.row 50 [.lf 66, .lf 67] 1 [] (.app 50 2 48 (.lf 49) (.lf 68) (.prim (.bin .add) [.lf 48, .num .i64 1] (.back 1 [.lf 70, .lf 69, .lf 50, .lf 51, .lf 52, .lf 53, .lf 54, .lf 55, .lf 56, .lf 57, .lf 58, .lf 59, .lf 60]))))) (.row 46 [.lf 49] 1 [.lf 49] (.app 46 1 24 (.lf 60) (.lf 66) (.chk [.lf 67] (.prim (.bin .add) [.lf 30, .num .i64 1] (.back 0 [.lf 68, .lf 50, .lf 51, .lf 52, .lf 53, .lf 54, .lf 55, .lf 56, .lf 57, .lf 58, .lf 59, .lf 67])))))))))) (.row 46 [.lf 49] 1 [.lf 49] (.app 46 1 24 (.lf 60) (.lf 62) (.chk [.lf 63] (.prim (.bin .add) [.lf 30, .num .i64 1] (.back 0 [.lf 64, .lf 50, .lf 51, .lf 52, .lf 53, .lf 54, .lf 55, .lf 56, .lf 57, .lf 58, .lf 59, .lf 63]))))))))) (.prim .nchk [.lf 1] (.prim (.fld 1) [.lf 47] (.loadm 4 (.lf 48) .one (.ite (.lf 49) (.ret (.tup [(true, [.num .i64 0, .num .i64 0, .num .i64 0, .bit false, .nil, .num .i64 0, .bit false, .nil, .num .i64 0, .nil, .nil]), (false, [.num .i64 9])])) (.prim .nchk [.lf 1] (.prim (.fld 0) [.lf 50] (.loadm 29 (.lf 51) .one (.prim .len [.lf 52] (.prim (.bin .gtr) [.lf 53, .num .i64 0] (.ite (.lf 54) (.ret (.tup [(true, [.num .i64 0, .num .i64 0, .num .i64 0, .bit false, .nil, .num .i64 0, .bit false, .nil, .num .i64 0, .nil, .nil]), (false, [.num .i64 9])])) (.call 8 [.ag [.lf 31, .lf 32, .lf 33, .lf 34, .lf 35, .lf 36, .lf 37, .lf 38, .lf 39, .lf 40, .lf 41]] .one (.prim .not [.lf 55] (.ite (.lf 56) (.ret (.tup [(true, [.num .i64 0, .num .i64 0, .num .i64 0, .bit false, .nil, .num .i64 0, .bit false, .nil, .num .i64 0, .nil, .nil]), (false, [.num .i64 9])])) (.chk [.lf 31, .lf 32, .lf 33, .lf 34, .lf 35, .lf 36, .lf 37, .lf 38, .lf 39, .lf 40, .lf 41] (.ret (.tup [(true, [.lf 31, .lf 32, .lf 33, .lf 34, .lf 35, .lf 36, .lf 37, .lf 38, .lf 39, .lf 40, .lf 41]), (false, [.num .i64 0])]))))))))))))))))))))) (.prim .nchk [.lf 1] (.prim (.fld 1) [.lf 43] (.loadm 4 (.lf 44) .one (.ite (.lf 45) (.ret (.tup [(true, [.num .i64 0, .num .i64 0, .num .i64 0, .bit false, .nil, .num .i64 0, .bit false, .nil, .num .i64 0, .nil, .nil]), (false, [.num .i64 9])])) (.prim .nchk [.lf 1] (.prim (.fld 0) [.lf 46] (.loadm 29 (.lf 47) .one (.prim .len [.lf 48] (.prim (.bin .gtr) [.lf 49, .num .i64 0] (.ite (.lf 50) (.ret (.tup [(true, [.num .i64 0, .num .i64 0, .num .i64 0, .bit false, .nil, .num .i64 0, .bit false, .nil, .num .i64 0, .nil, .nil]), (false, [.num .i64 9])])) (.call 8 [.ag [.lf 31, .lf 32, .lf 33, .lf 34, .lf 35, .lf 36, .lf 37, .lf 38, .lf 39, .lf 40, .lf 41]] .one (.prim .not [.lf 51] (.ite (.lf 52) (.ret (.tup [(true, [.num .i64 0, .num .i64 0, .num .i64 0, .bit false, .nil, .num .i64 0, .bit false, .nil, .num .i64 0, .nil, .nil]), (false, [.num .i64 9])])) (.chk [.lf 31, .lf 32, .lf 33, .lf 34, .lf 35, .lf 36, .lf 37, .lf 38, .lf 39, .lf 40, .lf 41] (.ret (.tup [(true, [.lf 31, .lf 32, .lf 33, .lf 34, .lf 35, .lf 36, .lf 37, .lf 38, .lf 39, .lf 40, .lf 41]), (false, [.num .i64 0])]))))))))))))))))))))))))) (.call 56 [.one (.lf 1), .one (.num .i64 16)] .one (.loop 0 [.num .i64 0, .lf 13, .lf 14, .lf 15, .lf 16, .lf 17, .lf 18, .lf 19, .lf 20, .lf 21, .lf 22, .lf 23] (.prim (.bin .lss) [.lf 26, .lf 25] (.ite (.lf 38) (.prim .nchk [.lf 1] (.prim (.fld 1) [.lf 39] (.loadm 4 (.lf 40) .one (.prim .not [.lf 41] (.ite (.lf 42) (.call 56 [.one (.lf 1), .one (.num .i64 64)] .one (.loop 1 [.num .i64 0, .nil, .lf 27, .lf 28, .lf 29, .lf 30, .lf 31, .lf 32, .lf 33, .lf 34, .lf 35, .lf 36, .lf 37] (.prim (.bin .lss) [.lf 44, .lf 43] (.ite (.lf 57) (.prim .nchk [.lf 1] (.prim (.fld 1) [.lf 58] (.loadm 4 (.lf 59) .one (.prim .not [.lf 60] (.ite (.lf 61) (.call 59 [.one (.lf 1)] (.ag 2) (.row 50 [.lf 62, .lf 63] 1 [] (.app 50 2 48 (.lf 45) (.lf 64) (.prim (.bin .add) [.lf 44, .num .i64 1] (.back 1 [.lf 66, .lf 65, .lf 46, .lf 47, .lf 48, .lf 49, .lf 50, .lf 51, .lf 52, .lf 53, .lf 54, .lf 55, .lf 56]))))) (.row 46 [.lf 45] 1 [.lf 45] (.app 46 1 24 (.lf 56) (.lf 62) (.chk [.lf 63] (.prim (.bin .add) [.lf 26, .num .i64 1] (.back 0 [.lf 64, .lf 46, .lf 47, .lf 48, .lf 49, .lf 50, .lf 51, .lf 52, .lf 53, .lf 54, .lf 55, .lf 63])))))))))) (.row 46 [.lf 45] 1 [.lf 45] (.app 46 1 24 (.lf 56) (.lf 58) (.chk [.lf 59] (.prim (.bin .add) [.lf 26, .num .i64 1] (.back 0 [.lf 60, .lf 46, .lf 47, .lf 48, .lf 49, .lf 50, .lf 51, .lf 52, .lf 53, .lf 54, .lf 55, .lf 59]))))))))) (.prim .nchk [.lf 1] (.prim (.fld 1) [.lf 43] (.loadm 4 (.lf 44) .one (.ite (.lf 45) (.ret (.tup [(true, [.num .i64 0, .num .i64 0, .num .i64 0, .bit false, .nil, .num .i64 0, .bit false, .nil, .num .i64 0, .nil, .nil]), (false, [.num .i64 9])])) (.prim .nchk [.lf 1] (.prim (.fld 0) [.lf 46] (.loadm 29 (.lf 47) .one (.prim .len [.lf 48] (.prim (.bin .gtr) [.lf 49, .num .i64 0] (.ite (.lf 50) (.ret (.tup [(true, [.num .i64 0, .num .i64 0, .num .i64 0, .bit false, .nil, .num .i64 0, .bit false, .nil, .num .i64 0, .nil, .nil]), (false, [.num .i64 9])])) (.call 8 [.ag [.lf 27, .lf 28, .lf 29, .lf 30, .lf 31, .lf 32, .lf 33, .lf 34, .lf 35, .lf 36, .lf 37]] .one (.prim .not [.lf 51] (.ite (.lf 52) (.ret (.tup [(true, [.num .i64 0, .num .i64 0, .num .i64 0, .bit false, .nil, .num .i64 0, .bit false, .nil, .num .i64 0, .nil, .nil]), (false, [.num .i64 9])])) (.chk [.lf 27, .lf 28, .lf 29, .lf 30, .lf 31, .lf 32, .lf 33, .lf 34, .lf 35, .lf 36, .lf 37] (.ret (.tup [(true, [.lf 27, .lf 28, .lf 29, .lf 30, .lf 31, .lf 32, .lf 33, .lf 34, .lf 35, .lf 36, .lf 37]), (false, [.num .i64 0])]))))))))))))))))))))) (.prim .nchk [.lf 1] (.prim (.fld 1) [.lf 39] (.loadm 4 (.lf 40) .one (.ite (.lf 41) (.ret (.tup [(true, [.num .i64 0, .num .i64 0, .num .i64 0, .bit false, .nil, .num .i64 0, .bit false, .nil, .num .i64 0, .nil, .nil]), (false, [.num .i64 9])])) (.prim .nchk [.lf 1] (.prim (.fld 0) [.lf 42] (.loadm 29 (.lf 43) .one (.prim .len [.lf 44] (.prim (.bin .gtr) [.lf 45, .num .i64 0] (.ite (.lf 46) (.ret (.tup [(true, [.num .i64 0, .num .i64 0, .num .i64 0, .bit false, .nil, .num .i64 0, .bit false, .nil, .num .i64 0, .nil, .nil]), (false, [.num .i64 9])])) (.call 8 [.ag [.lf 27, .lf 28, .lf 29, .lf 30, .lf 31, .lf 32, .lf 33, .lf 34, .lf 35, .lf 36, .lf 37]] .one (.prim .not [.lf 47] (.ite (.lf 48) (.ret (.tup [(true, [.num .i64 0, .num .i64 0, .num .i64 0, .bit false, .nil, .num .i64 0, .bit false, .nil, .num .i64 0, .nil, .nil]), (false, [.num .i64 9])])) (.chk [.lf 27, .lf 28, .lf 29, .lf 30, .lf 31, .lf 32, .lf 33, .lf 34, .lf 35, .lf 36, .lf 37] (.ret (.tup [(true, [.lf 27, .lf 28, .lf 29, .lf 30, .lf 31, .lf 32, .lf 33, .lf 34, .lf 35, .lf 36, .lf 37]), (false, [.num .i64 0])])))))))))))))))))))))))))))))))))))))
theorem tr_qget_eq : Sx.treeEs Try.prog 13 [] [1] [17, 999999] [(false, 1)] = some tr_qget := by kernel_rfl

theorem rcAny {ok : Nat → Prop} {w : World} {v : Value} {r : Rec} (h : RcAt ok w v r) : RcAt (fun _ => True) w v r := by
  obtain ⟨A, n, a, B, m, b, X, x, Y, y, rfl, h1, h2, h3, h4⟩ := h
  exact ⟨A, n, a, B, m, b, X, x, Y, y, rfl, h1, h2, h3.any, h4.any⟩

def GetTupQ (w w' : World) (e : Ending) (b : List Nat) : Prop := ∃ v, e = .returned (.tuple #[v, .int .i64 (getQ b).2]) ∧ RcAt (fun q => w.heap.size ≤ q) w' v (getQ b).1

set_option maxHeartbeats 4000000 in
theorem getQ_any (A : Option Addr) (c : Nat) (b : List Nat) (w : World) (hb : RdN .u8 w A b.length c b) (hl : Byt b) :
    Calls Try.prog 13 #[.slice A b.length c] w fun e w' => GetTupQ w w' e b ∧ Below w.heap.size w w' := by
  refine (Sx.runE (w0 := (w : Sx.Fr)) rfl (fun q h => by cases h) [] [1] [17, 999999] (ls := [.slice A b.length c]) (shs := [(false, 1)]) (R := fun v w' => ∃ y : Value, v = .tuple #[y, .int .i64 (getQ b).2] ∧ RcAt (fun q => w.heap.size ≤ q) w' y (getQ b).1) (Pn := fun _ _ => False) tr_qget_eq rfl (by decide) (fun q h => by cases h) ?_).mono (by
    rintro e w' ⟨hb, h⟩
    rcases h with ⟨v, rfl, y, rfl, h2⟩ | ⟨_, _, hf⟩
    · exact ⟨⟨y, rfl, h2⟩, hb.plain rfl⟩
    · exact hf.elim)
  unfold tr_qget
  obtain ⟨SP, hSP⟩ : ∃ SP, SP = qrec b := ⟨_, rfl⟩
  have hp0 : SP = (some b).bind qrec := hSP
  refine sat_chkB (by kernel_rfl) ?_
  refine sat_chkB (by kernel_rfl) ?_
  refine Sx.sat_newf [.slice A b.length c, .bool false] (by kernel_rfl) fun w1 h1 h2 B2 n2 s2 => ?_
  have S0 : Sx.RqS 94 (↑w : Sx.Fr) ⟨w1.alloc (.cells [.slice A b.length c, .bool false].toArray 94), w1.own, w1.heap.size :: w1.bld⟩ w1.heap.size (some b) := ⟨List.mem_cons_self .., rfl, A, c, b, B2, h2.toLf.rdk rfl hb, hl, fun b' e => by injection e with e; exact e.symm⟩
  generalize w1.heap.size = g at *
  generalize (⟨w1.alloc (.cells [.slice A b.length c, .bool false].toArray 94), w1.own, g :: w1.bld⟩ : Sx.OW) = o0 at *
  clear h1 h2 B2 n2 s2 hb
  refine Sx.sat_qcall (p := (some b).bind (qnum 200)) S0 #[.pointer (some ⟨g, 0, none⟩), .int .i64 200] (by kernel_rfl) (fun w2 h2 W2 => qnum_any g _ 200 (by omega) _ W2) (fun w2 q1 vk s1 u e h2 l2 hu S1 kp _ => ?_)
  obtain ⟨rfl, _⟩ := hu
  have hp1 := hp0.trans (bind_step e)
  clear hp0 h2 l2 e S0 kp
  refine ⟨[.int .i64 ((vk : Nat) : Int)], rfl, rfl, ?_⟩
  refine sat_chkB (by kernel_rfl) ?_
  refine sat_chkB (by kernel_rfl) ?_
  refine Sx.sat_qcall (p := s1.bind (qnum 1073741824)) S1 #[.pointer (some ⟨g, 0, none⟩), .int .i64 1073741824] (by kernel_rfl) (fun w2 h2 W2 => qnum_any g _ 1073741824 (by omega) _ W2) (fun w2 q2 ve s2 u e h2 l2 hu S2 kp _ => ?_)
  obtain ⟨rfl, _⟩ := hu
  have hp2 := hp1.trans (bind_step e)
  clear hp1 h2 l2 e S1 kp
  refine ⟨[.int .i64 ((ve : Nat) : Int)], rfl, rfl, ?_⟩
  refine sat_chkB (by kernel_rfl) ?_
  refine Sx.sat_qcall (p := s2.bind (qnum 200)) S2 #[.pointer (some ⟨g, 0, none⟩), .int .i64 200] (by kernel_rfl) (fun w2 h2 W2 => qnum_any g _ 200 (by omega) _ W2) (fun w2 q3 vc s3 u e h2 l2 hu S3 kp _ => ?_)
  obtain ⟨rfl, _⟩ := hu
  have hp3 := hp2.trans (bind_step e)
  clear hp2 h2 l2 e S2 kp
  refine ⟨[.int .i64 ((vc : Nat) : Int)], rfl, rfl, ?_⟩
  refine sat_chkB (by kernel_rfl) ?_
  refine Sx.sat_qcall (p := s3.bind qdy) S3 #[.pointer (some ⟨g, 0, none⟩)] (by kernel_rfl) (fun w2 h2 W2 => qdy_any g _ _ W2) (fun w2 q4 dt s4 u e h2 l2 hu S4 kp _ => ?_)
  obtain ⟨T1, t1, t2, rfl, r_t⟩ := hu
  have hp4 := hp3.trans (bind_step e)
  clear hp3 h2 l2 e S3 kp
  refine ⟨[.bool dt.neg, .slice T1 t1 t2, .int .i64 dt.e], rfl, rfl, ?_⟩
  refine sat_chkB (by kernel_rfl) ?_
  refine Sx.sat_qcall (p := s4.bind qdy) S4 #[.pointer (some ⟨g, 0, none⟩)] (by kernel_rfl) (fun w2 h2 W2 => qdy_any g _ _ W2) (fun w2 q5 dh s5 u e h2 l2 hu S5 kp _ => ?_)
  obtain ⟨H1, u1, u2, rfl, r_h⟩ := hu
  have hp5 := hp4.trans (bind_step e)
  replace r_t := l2.rdD r_t
  clear hp4 h2 l2 e S4 kp
  refine ⟨[.bool dh.neg, .slice H1 u1 u2, .int .i64 dh.e], rfl, rfl, ?_⟩
  refine sat_chkB (by kernel_rfl) ?_
  refine Sx.sat_qcall (p := s5.bind (qnum 16)) S5 #[.pointer (some ⟨g, 0, none⟩), .int .i64 16] (by kernel_rfl) (fun w2 h2 W2 => qnum_any g _ 16 (by omega) _ W2) (fun w2 q6 n s6 u e h2 l2 hu S6 kp _ => ?_)
  obtain ⟨rfl, hn⟩ := hu
  have hp6 := hp5.trans (bind_row e)
  replace r_t := l2.rdD r_t
  replace r_h := l2.rdD r_h
  clear hp5 h2 l2 e S5 kp
  refine ⟨[.int .i64 ((n : Nat) : Int)], rfl, rfl, ?_⟩
  refine sat_loop (fun Kn vs W => ∃ (i : Nat) (bx : List (Value × List Iv)) (s' : Option (List Nat)) (X : Option Addr) (x : Nat), vs = [.int .i64 ((i : Nat) : Int), .int .i64 ((vk : Nat) : Int), .int .i64 ((ve : Nat) : Int), .int .i64 ((vc : Nat) : Int), .bool dt.neg, .slice T1 t1 t2, .int .i64 dt.e, .bool dh.neg, .slice H1 u1 u2, .int .i64 dh.e, .slice X bx.length x, .slice none 0 0] ∧ Kn = n - i ∧ i ≤ n ∧ bx.length = i ∧ Sx.RqS 94 (↑w : Sx.Fr) W g s' ∧ Sx.Bx Sx.kI 61 45 w.heap.size (↑w : Sx.Fr) W (.slice X bx.length x) bx g ∧ RdD W.toWorld (.agg #[.bool dt.neg, .slice T1 t1 t2, .int .i64 dt.e]) dt ∧ RdD W.toWorld (.agg #[.bool dh.neg, .slice H1 u1 u2, .int .i64 dh.e]) dh ∧ SP = s'.bind fun b => andP (prep (qrow 64 qiv) (n - i) (bx.map (·.2)) b) fun x b6 => andP (qrow 16 (qrow 64 qtb) b6) fun sg b7 => some ((⟨((vk : Nat) : Int), ((ve : Nat) : Int), ((vc : Nat) : Int), dt, dh, x, sg⟩ : Rec), b7)) [.int .i64 0, .int .i64 ((vk : Nat) : Int), .int .i64 ((ve : Nat) : Int), .int .i64 ((vc : Nat) : Int), .bool dt.neg, .slice T1 t1 t2, .int .i64 dt.e, .bool dh.neg, .slice H1 u1 u2, .int .i64 dh.e, .slice none 0 0, .slice none 0 0] (by kernel_rfl) (fun w1 h1 => ⟨_, 0, [], s6, none, 0, rfl, rfl, by omega, rfl, S6.le h1, ⟨⟨Sx.Gr.nil (k := Sx.kF w.heap.size (Sx.kS Iv)) (Nat.succ_pos _) _ _ _, fun e => by cases e⟩, fun p hp => (by cases hp)⟩, h1.rdD r_t, h1.rdD r_h, hp6⟩) ?_
  clear S6 r_t r_h hp6
  rintro Kn vs w3 h3 ⟨i, bx, o3, X, x, rfl, rfl, hi, hbx, S3, X3, r_t, r_h, hsp3⟩
  clear h3
  refine sat_prim (v := .bool (decide (((i : Nat) : Int) < ((n : Nat) : Int)))) (by kernel_rfl) ?_
  by_cases hin : i < n
  · refine sat_trueP (b := decide (((i : Nat) : Int) < ((n : Nat) : Int))) (by kernel_rfl) (decide_eq_true (by omega)) ?_
    refine Sx.sat_isbad S3 (by kernel_rfl) (by kernel_rfl) (by kernel_rfl) ?_
    refine sat_prim (v := .bool (!o3.isNone)) (by kernel_rfl) ?_
    cases hbd : o3.isNone
    · refine sat_true (by kernel_rfl) ?_
      have hsp5 := hsp3.trans (bind_prep (m := n - i - 1) (by omega))
      refine Sx.sat_qcall (p := o3.bind (qnum 64)) S3 #[.pointer (some ⟨g, 0, none⟩), .int .i64 64] (by kernel_rfl) (fun w2 h2 W2 => qnum_any g o3 64 (by omega) _ W2) (fun w2 q2 m s2 u e h2 l2 hu S5 kp _ => ?_)
      obtain ⟨rfl, hm⟩ := hu
      have hsp6 := hsp5.trans (bind_row e)
      have X5 := X3.rd l2 kp
      have r_t5 := l2.rdD r_t
      have r_h5 := l2.rdD r_h
      clear hsp3 hsp5 h2 l2 e S3 X3 kp r_t r_h hbd
      refine ⟨[.int .i64 ((m : Nat) : Int)], rfl, rfl, ?_⟩
      refine sat_loop (fun Kn vs W => ∃ (k : Nat) (row : List Iv) (s' : Option (List Nat)) (Z : Option Addr) (z : Nat), vs = [.int .i64 ((k : Nat) : Int), .slice Z row.length z, .int .i64 ((vk : Nat) : Int), .int .i64 ((ve : Nat) : Int), .int .i64 ((vc : Nat) : Int), .bool dt.neg, .slice T1 t1 t2, .int .i64 dt.e, .bool dh.neg, .slice H1 u1 u2, .int .i64 dh.e, .slice X bx.length x, .slice none 0 0] ∧ Kn = m - k ∧ k ≤ m ∧ row.length = k ∧ Sx.RqS 94 (↑w : Sx.Fr) W g s' ∧ Sx.Bx Sx.kI 61 45 w.heap.size (↑w : Sx.Fr) W (.slice X bx.length x) bx g ∧ Sx.ApX (.slice Z row.length z) (.slice X bx.length x) bx ∧ Sx.GrN (Sx.kF w.heap.size Sx.kI) (↑w : Sx.Fr) 61 W (.slice Z row.length z) row g ∧ RdD W.toWorld (.agg #[.bool dt.neg, .slice T1 t1 t2, .int .i64 dt.e]) dt ∧ RdD W.toWorld (.agg #[.bool dh.neg, .slice H1 u1 u2, .int .i64 dh.e]) dh ∧ SP = s'.bind fun b => andP (prep qiv (m - k) row b) fun z b' => andP (prep (qrow 64 qiv) (n - i - 1) (bx.map (·.2) ++ [z]) b') fun x b6 => andP (qrow 16 (qrow 64 qtb) b6) fun sg b7 => some ((⟨((vk : Nat) : Int), ((ve : Nat) : Int), ((vc : Nat) : Int), dt, dh, x, sg⟩ : Rec), b7)) [.int .i64 0, .slice none 0 0, .int .i64 ((vk : Nat) : Int), .int .i64 ((ve : Nat) : Int), .int .i64 ((vc : Nat) : Int), .bool dt.neg, .slice T1 t1 t2, .int .i64 dt.e, .bool dh.neg, .slice H1 u1 u2, .int .i64 dh.e, .slice X bx.length x, .slice none 0 0] (by kernel_rfl) (fun w1 h1 => ⟨_, 0, [], s2, none, 0, rfl, rfl, by omega, rfl, S5.le h1, X5.le h1, Sx.ApX.nil, ⟨Sx.Gr.nil (k := Sx.kF w.heap.size Sx.kI) (Nat.succ_pos _) _ _ _, fun e => by cases e⟩, h1.rdD r_t5, h1.rdD r_h5, hsp6⟩) ?_
      rintro Kn vs w6 h6 ⟨k, row, o6, Z, z, rfl, rfl, hk, hrow, S6, X6, D6, G6, r_t, r_h, hsp7⟩
      clear hsp6 h6 S5 X5 r_t5 r_h5
      refine sat_prim (v := .bool (decide (((k : Nat) : Int) < ((m : Nat) : Int)))) (by kernel_rfl) ?_
      by_cases hkm : k < m
      · refine sat_trueP (b := decide (((k : Nat) : Int) < ((m : Nat) : Int))) (by kernel_rfl) (decide_eq_true (by omega)) ?_
        refine Sx.sat_isbad S6 (by kernel_rfl) (by kernel_rfl) (by kernel_rfl) ?_
        refine sat_prim (v := .bool (!o6.isNone)) (by kernel_rfl) ?_
        cases hbd : o6.isNone
        · refine sat_true (by kernel_rfl) ?_
          have hsp8 := hsp7.trans (bind_prep (m := m - k - 1) (by omega))
          refine Sx.sat_qcall (p := o6.bind qiv) S6 #[.pointer (some ⟨g, 0, none⟩)] (by kernel_rfl) (fun w2 h2 W2 => qiv_any g o6 _ W2) (fun w7 o7 e1 s7 u e h7 l7 hu S7 kp _ => ?_)
          have hsp9 := hsp8.trans (bind_step e)
          obtain ⟨C1, k1, d1, C2, k2, d2, rfl, r_x1, r_x2⟩ := hu
          have X7 := X6.rd l7 kp
          have G7 := G6.rd l7 kp
          have r_t7 := l7.rdD r_t
          have r_h7 := l7.rdD r_h
          clear hsp7 hsp8 h7 l7 e S6 X6 G6 kp r_t r_h hbd
          refine ⟨[.bool e1.lo.neg, .slice C1 k1 d1, .int .i64 e1.lo.e, .bool e1.hi.neg, .slice C2 k2 d2, .int .i64 e1.hi.e], rfl, rfl, ?_⟩
          refine Sx.sat_qpush1 (k := Sx.kI) (j := 54) e1 [.bool e1.lo.neg, .slice C1 k1 d1, .int .i64 e1.lo.e, .bool e1.hi.neg, .slice C2 k2 d2, .int .i64 e1.hi.e] G7 S7 (by kernel_rfl) (by kernel_rfl) (by intro y hy; cases hy) (fun r => by kernel_rfl) rfl (fun w' h' => ⟨C1, k1, d1, C2, k2, d2, rfl, h'.rdD r_x1, h'.rdD r_x2⟩) (by unfold maxLen; omega) (by omega) fun r Z' z' o8 l8 oth S8 G8 => ?_
          obtain ⟨X8, D8⟩ := X7.oth oth D6
          have r_t8 := l8.rdD r_t7
          have r_h8 := l8.rdD r_h7
          refine sat_prim (v := .int .i64 ((k + 1 : Nat) : Int)) (Eq.trans (b := some (.int .i64 (IntKind.i64.wrap (((k : Nat) : Int) + 1)))) (by kernel_rfl) (sml (by omega) (by omega))) ?_
          exact sat_back [.int .i64 ((k + 1 : Nat) : Int), .slice Z' (row ++ [e1]).length z', .int .i64 ((vk : Nat) : Int), .int .i64 ((ve : Nat) : Int), .int .i64 ((vc : Nat) : Int), .bool dt.neg, .slice T1 t1 t2, .int .i64 dt.e, .bool dh.neg, .slice H1 u1 u2, .int .i64 dh.e, .slice X bx.length x, .slice none 0 0] (by kernel_rfl) fun w9 h9 => ⟨_, by omega, k + 1, row ++ [e1], s7, Z', z', rfl, rfl, by omega, by rw [List.length_append]; simp only [List.length_cons, List.length_nil]; omega, S8.le h9, X8.le h9, D8, G8.le h9, h9.rdD r_t8, h9.rdD r_h8, by rw [show m - (k + 1) = m - k - 1 by omega]; exact hsp9⟩
        · refine sat_false (by kernel_rfl) ?_
          obtain rfl := isNone_none hbd
          have hsp8 : SP = (none : Option (List Nat)).bind fun b' => andP (prep (qrow 64 qiv) (n - i - 1) (bx.map (·.2) ++ [row]) b') fun x b6 => andP (qrow 16 (qrow 64 qtb) b6) fun sg b7 => some ((⟨((vk : Nat) : Int), ((ve : Nat) : Int), ((vc : Nat) : Int), dt, dh, x, sg⟩ : Rec), b7) := hsp7
          clear hsp7 hbd
          refine Sx.sat_qpush1 (k := Sx.kS Iv) (j := 48) (.slice Z row.length z, row) [.slice Z row.length z] X6.gr S6 (by kernel_rfl) (by kernel_rfl) (fun y hy => by obtain rfl := List.mem_singleton.1 hy; kernel_rfl) (fun r => by kernel_rfl) rfl (fun w' h' => ⟨rfl, Z, z, rfl⟩) (by unfold maxLen; omega) (by omega) fun r X' x' o8 l8 oth S8 G8 => ?_
          have X8 := X6.push oth G6 D6 G8
          have r_t8 := l8.rdD r_t
          have r_h8 := l8.rdD r_h
          refine sat_chkB (by kernel_rfl) ?_
          refine sat_prim (v := .int .i64 ((i + 1 : Nat) : Int)) (Eq.trans (b := some (.int .i64 (IntKind.i64.wrap (((i : Nat) : Int) + 1)))) (by kernel_rfl) (sml (by omega) (by omega))) ?_
          exact Sx.sat_backO (d := 0) (d' := 1) rfl [.int .i64 ((i + 1 : Nat) : Int), .int .i64 ((vk : Nat) : Int), .int .i64 ((ve : Nat) : Int), .int .i64 ((vc : Nat) : Int), .bool dt.neg, .slice T1 t1 t2, .int .i64 dt.e, .bool dh.neg, .slice H1 u1 u2, .int .i64 dh.e, .slice X' (bx ++ [(Value.slice Z row.length z, row)]).length x', .slice none 0 0] (by kernel_rfl) fun w9 h9 => ⟨_, by omega, i + 1, bx ++ [(Value.slice Z row.length z, row)], none, X', x', rfl, rfl, by omega, by rw [List.length_append]; simp only [List.length_cons, List.length_nil]; omega, S8.le h9, X8.le h9, h9.rdD r_t8, h9.rdD r_h8, by rw [List.map_append, show n - (i + 1) = n - i - 1 by omega]; exact hsp8⟩
      · refine sat_falseP (b := decide (((k : Nat) : Int) < ((m : Nat) : Int))) (by kernel_rfl) (decide_eq_false (by omega)) ?_
        have hsp8 : SP = o6.bind fun b' => andP (prep (qrow 64 qiv) (n - i - 1) (bx.map (·.2) ++ [row]) b') fun x b6 => andP (qrow 16 (qrow 64 qtb) b6) fun sg b7 => some ((⟨((vk : Nat) : Int), ((ve : Nat) : Int), ((vc : Nat) : Int), dt, dh, x, sg⟩ : Rec), b7) := by rw [hsp7, show m - k = 0 by omega]; rfl
        clear hsp7
        refine Sx.sat_qpush1 (k := Sx.kS Iv) (j := 44) (.slice Z row.length z, row) [.slice Z row.length z] X6.gr S6 (by kernel_rfl) (by kernel_rfl) (fun y hy => by obtain rfl := List.mem_singleton.1 hy; kernel_rfl) (fun r => by kernel_rfl) rfl (fun w' h' => ⟨rfl, Z, z, rfl⟩) (by unfold maxLen; omega) (by omega) fun r X' x' o8 l8 oth S8 G8 => ?_
        have X8 := X6.push oth G6 D6 G8
        have r_t8 := l8.rdD r_t
        have r_h8 := l8.rdD r_h
        refine sat_chkB (by kernel_rfl) ?_
        refine sat_prim (v := .int .i64 ((i + 1 : Nat) : Int)) (Eq.trans (b := some (.int .i64 (IntKind.i64.wrap (((i : Nat) : Int) + 1)))) (by kernel_rfl) (sml (by omega) (by omega))) ?_
        exact Sx.sat_backO (d := 0) (d' := 1) rfl [.int .i64 ((i + 1 : Nat) : Int), .int .i64 ((vk : Nat) : Int), .int .i64 ((ve : Nat) : Int), .int .i64 ((vc : Nat) : Int), .bool dt.neg, .slice T1 t1 t2, .int .i64 dt.e, .bool dh.neg, .slice H1 u1 u2, .int .i64 dh.e, .slice X' (bx ++ [(Value.slice Z row.length z, row)]).length x', .slice none 0 0] (by kernel_rfl) fun w9 h9 => ⟨_, by omega, i + 1, bx ++ [(Value.slice Z row.length z, row)], o6, X', x', rfl, rfl, by omega, by rw [List.length_append]; simp only [List.length_cons, List.length_nil]; omega, S8.le h9, X8.le h9, h9.rdD r_t8, h9.rdD r_h8, by rw [List.map_append, show n - (i + 1) = n - i - 1 by omega]; exact hsp8⟩
    · refine sat_false (by kernel_rfl) ?_
      obtain rfl := isNone_none hbd
      have hT : SP = (none : Option (List Nat)).bind fun b6 => andP (qrow 16 (qrow 64 qtb) b6) fun sg b7 => some ((⟨((vk : Nat) : Int), ((ve : Nat) : Int), ((vc : Nat) : Int), dt, dh, bx.map (·.2), sg⟩ : Rec), b7) := hsp3
      clear hsp3 hbd
      generalize hO3 : (none : Option (List Nat)) = o3 at *
      refine Sx.sat_qcall (p := o3.bind (qnum 16)) S3 #[.pointer (some ⟨g, 0, none⟩), .int .i64 16] (by kernel_rfl) (fun w2 h2 W2 => qnum_any g o3 16 (by omega) _ W2) (fun w2 q2 n2 s2 u e h2 l2 hu S5 kp _ => ?_)
      obtain ⟨rfl, hn2⟩ := hu
      have hT5 := hT.trans (bind_row e)
      have X5 := X3.rd l2 kp
      have r_t5 := l2.rdD r_t
      have r_h5 := l2.rdD r_h
      clear hT h2 l2 e S3 X3 kp r_t r_h
      refine ⟨[.int .i64 ((n2 : Nat) : Int)], rfl, rfl, ?_⟩
      refine sat_loop (fun Kn vs W => ∃ (i : Nat) (sg : List (Value × List Tb)) (s' : Option (List Nat)) (Y : Option Addr) (y : Nat), vs = [.int .i64 ((i : Nat) : Int), .int .i64 ((vk : Nat) : Int), .int .i64 ((ve : Nat) : Int), .int .i64 ((vc : Nat) : Int), .bool dt.neg, .slice T1 t1 t2, .int .i64 dt.e, .bool dh.neg, .slice H1 u1 u2, .int .i64 dh.e, .slice X bx.length x, .slice Y sg.length y] ∧ Kn = n2 - i ∧ i ≤ n2 ∧ sg.length = i ∧ Sx.RqS 94 (↑w : Sx.Fr) W g s' ∧ Sx.Bx Sx.kI 61 45 w.heap.size (↑w : Sx.Fr) W (.slice X bx.length x) bx g ∧ Sx.Bx Sx.kT 50 46 w.heap.size (↑w : Sx.Fr) W (.slice Y sg.length y) sg g ∧ Sx.ApX (.slice Y sg.length y) (.slice X bx.length x) bx ∧ RdD W.toWorld (.agg #[.bool dt.neg, .slice T1 t1 t2, .int .i64 dt.e]) dt ∧ RdD W.toWorld (.agg #[.bool dh.neg, .slice H1 u1 u2, .int .i64 dh.e]) dh ∧ SP = s'.bind fun b => andP (prep (qrow 64 qtb) (n2 - i) (sg.map (·.2)) b) fun sg b7 => some ((⟨((vk : Nat) : Int), ((ve : Nat) : Int), ((vc : Nat) : Int), dt, dh, bx.map (·.2), sg⟩ : Rec), b7)) [.int .i64 0, .int .i64 ((vk : Nat) : Int), .int .i64 ((ve : Nat) : Int), .int .i64 ((vc : Nat) : Int), .bool dt.neg, .slice T1 t1 t2, .int .i64 dt.e, .bool dh.neg, .slice H1 u1 u2, .int .i64 dh.e, .slice X bx.length x, .slice none 0 0] (by kernel_rfl) (fun w1 h1 => ⟨_, 0, [], s2, none, 0, rfl, rfl, by omega, rfl, S5.le h1, X5.le h1, ⟨⟨Sx.Gr.nil (k := Sx.kF w.heap.size (Sx.kS Tb)) (Nat.succ_pos _) _ _ _, fun e => by cases e⟩, fun p hp => (by cases hp)⟩, Sx.ApX.nil, h1.rdD r_t5, h1.rdD r_h5, hT5⟩) ?_
      rintro Kn vs w4 h4 ⟨i, sg, o4, Y, y, rfl, rfl, hi, hsg, S4, X4, Y4, D4, r_t, r_h, hsp4⟩
      clear hT5 h4 S5 X5 r_t5 r_h5
      refine sat_prim (v := .bool (decide (((i : Nat) : Int) < ((n2 : Nat) : Int)))) (by kernel_rfl) ?_
      by_cases hin : i < n2
      · refine sat_trueP (b := decide (((i : Nat) : Int) < ((n2 : Nat) : Int))) (by kernel_rfl) (decide_eq_true (by omega)) ?_
        refine Sx.sat_isbad S4 (by kernel_rfl) (by kernel_rfl) (by kernel_rfl) ?_
        refine sat_prim (v := .bool (!o4.isNone)) (by kernel_rfl) ?_
        cases hbd : o4.isNone
        · refine sat_true (by kernel_rfl) ?_
          have hsp5 := hsp4.trans (bind_prep (m := n2 - i - 1) (by omega))
          refine Sx.sat_qcall (p := o4.bind (qnum 64)) S4 #[.pointer (some ⟨g, 0, none⟩), .int .i64 64] (by kernel_rfl) (fun w2 h2 W2 => qnum_any g o4 64 (by omega) _ W2) (fun w2 q2 m s2 u e h2 l2 hu S5 kp _ => ?_)
          obtain ⟨rfl, hm⟩ := hu
          have hsp6 := hsp5.trans (bind_row e)
          have X5 := X4.rd l2 kp
          have Y5 := Y4.rd l2 kp
          have r_t5 := l2.rdD r_t
          have r_h5 := l2.rdD r_h
          clear hsp4 hsp5 h2 l2 e S4 X4 Y4 kp r_t r_h hbd
          refine ⟨[.int .i64 ((m : Nat) : Int)], rfl, rfl, ?_⟩
          refine sat_loop (fun Kn vs W => ∃ (k : Nat) (row : List Tb) (s' : Option (List Nat)) (Z : Option Addr) (z : Nat), vs = [.int .i64 ((k : Nat) : Int), .slice Z row.length z, .int .i64 ((vk : Nat) : Int), .int .i64 ((ve : Nat) : Int), .int .i64 ((vc : Nat) : Int), .bool dt.neg, .slice T1 t1 t2, .int .i64 dt.e, .bool dh.neg, .slice H1 u1 u2, .int .i64 dh.e, .slice X bx.length x, .slice Y sg.length y] ∧ Kn = m - k ∧ k ≤ m ∧ row.length = k ∧ Sx.RqS 94 (↑w : Sx.Fr) W g s' ∧ Sx.Bx Sx.kI 61 45 w.heap.size (↑w : Sx.Fr) W (.slice X bx.length x) bx g ∧ Sx.Bx Sx.kT 50 46 w.heap.size (↑w : Sx.Fr) W (.slice Y sg.length y) sg g ∧ Sx.ApX (.slice Z row.length z) (.slice X bx.length x) bx ∧ Sx.ApX (.slice Z row.length z) (.slice Y sg.length y) sg ∧ Sx.GrN (Sx.kF w.heap.size Sx.kT) (↑w : Sx.Fr) 50 W (.slice Z row.length z) row g ∧ RdD W.toWorld (.agg #[.bool dt.neg, .slice T1 t1 t2, .int .i64 dt.e]) dt ∧ RdD W.toWorld (.agg #[.bool dh.neg, .slice H1 u1 u2, .int .i64 dh.e]) dh ∧ SP = s'.bind fun b => andP (prep qtb (m - k) row b) fun z b' => andP (prep (qrow 64 qtb) (n2 - i - 1) (sg.map (·.2) ++ [z]) b') fun sg b7 => some ((⟨((vk : Nat) : Int), ((ve : Nat) : Int), ((vc : Nat) : Int), dt, dh, bx.map (·.2), sg⟩ : Rec), b7)) [.int .i64 0, .slice none 0 0, .int .i64 ((vk : Nat) : Int), .int .i64 ((ve : Nat) : Int), .int .i64 ((vc : Nat) : Int), .bool dt.neg, .slice T1 t1 t2, .int .i64 dt.e, .bool dh.neg, .slice H1 u1 u2, .int .i64 dh.e, .slice X bx.length x, .slice Y sg.length y] (by kernel_rfl) (fun w1 h1 => ⟨_, 0, [], s2, none, 0, rfl, rfl, by omega, rfl, S5.le h1, X5.le h1, Y5.le h1, Sx.ApX.nil, Sx.ApX.nil, ⟨Sx.Gr.nil (k := Sx.kF w.heap.size Sx.kT) (Nat.succ_pos _) _ _ _, fun e => by cases e⟩, h1.rdD r_t5, h1.rdD r_h5, hsp6⟩) ?_
          rintro Kn vs w6 h6 ⟨k, row, o6, Z, z, rfl, rfl, hk, hrow, S6, X6, Y6, D6, E6, G6, r_t, r_h, hsp7⟩
          clear hsp6 h6 S5 X5 Y5 r_t5 r_h5
          refine sat_prim (v := .bool (decide (((k : Nat) : Int) < ((m : Nat) : Int)))) (by kernel_rfl) ?_
          by_cases hkm : k < m
          · refine sat_trueP (b := decide (((k : Nat) : Int) < ((m : Nat) : Int))) (by kernel_rfl) (decide_eq_true (by omega)) ?_
            refine Sx.sat_isbad S6 (by kernel_rfl) (by kernel_rfl) (by kernel_rfl) ?_
            refine sat_prim (v := .bool (!o6.isNone)) (by kernel_rfl) ?_
            cases hbd : o6.isNone
            · refine sat_true (by kernel_rfl) ?_
              have hsp8 := hsp7.trans (bind_prep (m := m - k - 1) (by omega))
              refine Sx.sat_qcall (p := o6.bind qtb) S6 #[.pointer (some ⟨g, 0, none⟩)] (by kernel_rfl) (fun w2 h2 W2 => qtb_any g o6 _ W2) (fun w7 o7 e1 s7 u e h7 l7 hu S7 kp mvf => ?_)
              have hsp9 := hsp8.trans (bind_step e)
              obtain ⟨C, d, D, d2, rfl, R1, R2⟩ := hu
              replace R1 := R1.mv mvf
              replace R2 := R2.mv mvf
              have X7 := X6.rd l7 kp
              have Y7 := Y6.rd l7 kp
              have G7 := G6.rd l7 kp
              have r_t7 := l7.rdD r_t
              have r_h7 := l7.rdD r_h
              clear hsp7 hsp8 h7 l7 e S6 X6 Y6 G6 kp mvf r_t r_h hbd
              refine ⟨[.slice C e1.at_.length d, .slice D e1.v.length d2], rfl, rfl, ?_⟩
              refine Sx.sat_qpush1 (k := Sx.kT) (j := 68) e1 [.slice C e1.at_.length d, .slice D e1.v.length d2] G7 S7 (by kernel_rfl) (by kernel_rfl) (by intro y hy; cases hy) (fun r => by kernel_rfl) rfl (fun w' h' => ⟨C, _, d, D, _, d2, rfl, R1.mv h'.mvF, R2.mv h'.mvF⟩) (by unfold maxLen; omega) (by omega) fun r Z' z' o8 l8 oth S8 G8 => ?_
              obtain ⟨X8, D8⟩ := X7.oth oth D6
              obtain ⟨Y8, E8⟩ := Y7.oth oth E6
              have r_t8 := l8.rdD r_t7
              have r_h8 := l8.rdD r_h7
              refine sat_prim (v := .int .i64 ((k + 1 : Nat) : Int)) (Eq.trans (b := some (.int .i64 (IntKind.i64.wrap (((k : Nat) : Int) + 1)))) (by kernel_rfl) (sml (by omega) (by omega))) ?_
              exact sat_back [.int .i64 ((k + 1 : Nat) : Int), .slice Z' (row ++ [e1]).length z', .int .i64 ((vk : Nat) : Int), .int .i64 ((ve : Nat) : Int), .int .i64 ((vc : Nat) : Int), .bool dt.neg, .slice T1 t1 t2, .int .i64 dt.e, .bool dh.neg, .slice H1 u1 u2, .int .i64 dh.e, .slice X bx.length x, .slice Y sg.length y] (by kernel_rfl) fun w9 h9 => ⟨_, by omega, k + 1, row ++ [e1], s7, Z', z', rfl, rfl, by omega, by rw [List.length_append]; simp only [List.length_cons, List.length_nil]; omega, S8.le h9, X8.le h9, Y8.le h9, D8, E8, G8.le h9, h9.rdD r_t8, h9.rdD r_h8, by rw [show m - (k + 1) = m - k - 1 by omega]; exact hsp9⟩
            · refine sat_false (by kernel_rfl) ?_
              obtain rfl := isNone_none hbd
              have hsp8 : SP = (none : Option (List Nat)).bind fun b' => andP (prep (qrow 64 qtb) (n2 - i - 1) (sg.map (·.2) ++ [row]) b') fun sg b7 => some ((⟨((vk : Nat) : Int), ((ve : Nat) : Int), ((vc : Nat) : Int), dt, dh, bx.map (·.2), sg⟩ : Rec), b7) := hsp7
              clear hsp7 hbd
              refine Sx.sat_qpush1 (k := Sx.kS Tb) (j := 66) (.slice Z row.length z, row) [.slice Z row.length z] Y6.gr S6 (by kernel_rfl) (by kernel_rfl) (fun y hy => by obtain rfl := List.mem_singleton.1 hy; kernel_rfl) (fun r => by kernel_rfl) rfl (fun w' h' => ⟨rfl, Z, z, rfl⟩) (by unfold maxLen; omega) (by omega) fun r Y' y' o8 l8 oth S8 G8 => ?_
              have Y8 := Y6.push oth G6 E6 G8
              obtain ⟨X8, D8⟩ := X6.oth oth D4
              have r_t8 := l8.rdD r_t
              have r_h8 := l8.rdD r_h
              refine sat_chkB (by kernel_rfl) ?_
              refine sat_prim (v := .int .i64 ((i + 1 : Nat) : Int)) (Eq.trans (b := some (.int .i64 (IntKind.i64.wrap (((i : Nat) : Int) + 1)))) (by kernel_rfl) (sml (by omega) (by omega))) ?_
              exact Sx.sat_backO (d := 0) (d' := 1) rfl [.int .i64 ((i + 1 : Nat) : Int), .int .i64 ((vk : Nat) : Int), .int .i64 ((ve : Nat) : Int), .int .i64 ((vc : Nat) : Int), .bool dt.neg, .slice T1 t1 t2, .int .i64 dt.e, .bool dh.neg, .slice H1 u1 u2, .int .i64 dh.e, .slice X bx.length x, .slice Y' (sg ++ [(Value.slice Z row.length z, row)]).length y'] (by kernel_rfl) fun w9 h9 => ⟨_, by omega, i + 1, sg ++ [(Value.slice Z row.length z, row)], none, Y', y', rfl, rfl, by omega, by rw [List.length_append]; simp only [List.length_cons, List.length_nil]; omega, S8.le h9, X8.le h9, Y8.le h9, D8, h9.rdD r_t8, h9.rdD r_h8, by rw [List.map_append, show n2 - (i + 1) = n2 - i - 1 by omega]; exact hsp8⟩
          · refine sat_falseP (b := decide (((k : Nat) : Int) < ((m : Nat) : Int))) (by kernel_rfl) (decide_eq_false (by omega)) ?_
            have hsp8 : SP = o6.bind fun b' => andP (prep (qrow 64 qtb) (n2 - i - 1) (sg.map (·.2) ++ [row]) b') fun sg b7 => some ((⟨((vk : Nat) : Int), ((ve : Nat) : Int), ((vc : Nat) : Int), dt, dh, bx.map (·.2), sg⟩ : Rec), b7) := by rw [hsp7, show m - k = 0 by omega]; rfl
            clear hsp7
            refine Sx.sat_qpush1 (k := Sx.kS Tb) (j := 62) (.slice Z row.length z, row) [.slice Z row.length z] Y6.gr S6 (by kernel_rfl) (by kernel_rfl) (fun y hy => by obtain rfl := List.mem_singleton.1 hy; kernel_rfl) (fun r => by kernel_rfl) rfl (fun w' h' => ⟨rfl, Z, z, rfl⟩) (by unfold maxLen; omega) (by omega) fun r Y' y' o8 l8 oth S8 G8 => ?_
            have Y8 := Y6.push oth G6 E6 G8
            obtain ⟨X8, D8⟩ := X6.oth oth D4
            have r_t8 := l8.rdD r_t
            have r_h8 := l8.rdD r_h
            refine sat_chkB (by kernel_rfl) ?_
            refine sat_prim (v := .int .i64 ((i + 1 : Nat) : Int)) (Eq.trans (b := some (.int .i64 (IntKind.i64.wrap (((i : Nat) : Int) + 1)))) (by kernel_rfl) (sml (by omega) (by omega))) ?_
            exact Sx.sat_backO (d := 0) (d' := 1) rfl [.int .i64 ((i + 1 : Nat) : Int), .int .i64 ((vk : Nat) : Int), .int .i64 ((ve : Nat) : Int), .int .i64 ((vc : Nat) : Int), .bool dt.neg, .slice T1 t1 t2, .int .i64 dt.e, .bool dh.neg, .slice H1 u1 u2, .int .i64 dh.e, .slice X bx.length x, .slice Y' (sg ++ [(Value.slice Z row.length z, row)]).length y'] (by kernel_rfl) fun w9 h9 => ⟨_, by omega, i + 1, sg ++ [(Value.slice Z row.length z, row)], o6, Y', y', rfl, rfl, by omega, by rw [List.length_append]; simp only [List.length_cons, List.length_nil]; omega, S8.le h9, X8.le h9, Y8.le h9, D8, h9.rdD r_t8, h9.rdD r_h8, by rw [List.map_append, show n2 - (i + 1) = n2 - i - 1 by omega]; exact hsp8⟩
        · refine sat_false (by kernel_rfl) ?_
          obtain rfl := isNone_none hbd
          have hF : SP = (none : Option (List Nat)).map fun b => ((⟨((vk : Nat) : Int), ((ve : Nat) : Int), ((vc : Nat) : Int), dt, dh, bx.map (·.2), sg.map (·.2)⟩ : Rec), b) := hsp4
          clear hsp4 hbd
          generalize hO4 : (none : Option (List Nat)) = o4 at *
          refine Sx.sat_isbad S4 (by kernel_rfl) (by kernel_rfl) (by kernel_rfl) ?_
          have err : ∀ w9 : Sx.OW, getQ b = (zeroR, 9) → ∃ y : Value, (Value.tuple #[.agg #[.int .i64 0, .int .i64 0, .int .i64 0, .bool false, .slice none 0 0, .int .i64 0, .bool false, .slice none 0 0, .int .i64 0, .slice none 0 0, .slice none 0 0], .int .i64 9]) = .tuple #[y, .int .i64 (getQ b).2] ∧ RcAt (fun q => w.heap.size ≤ q) w9.toWorld y (getQ b).1 := fun w9 hE => ⟨_, by rw [hE], by rw [hE]; exact mkRc (r := zeroR) (RdD.zero _) (RdD.zero _) (Sx.Rows.nil _ _ _) (Sx.Rows.nil _ _ _)⟩
          cases hbd2 : o4.isNone
          · refine sat_false (by kernel_rfl) ?_
            obtain ⟨b4, rfl⟩ := isNone_some hbd2
            have hQ : getQ b = getT (⟨((vk : Nat) : Int), ((ve : Nat) : Int), ((vc : Nat) : Int), dt, dh, bx.map (·.2), sg.map (·.2)⟩) b4 := by unfold getQ; rw [← hSP, hF]; rfl
            obtain ⟨A4, c4, b4', hB4, _, _, hb4⟩ := S4.rd
            obtain rfl := hb4 b4 rfl
            refine sat_prim (v := .pointer (some ⟨g, 0, none⟩)) (by kernel_rfl) ?_
            refine sat_prim (v := .pointer (some ⟨g, 0 + 0, none⟩)) (by kernel_rfl) ?_
            refine Sx.sat_bload (off := 0) (.slice A4 b4.length c4) hB4 S4.bg (by kernel_rfl) rfl (by kernel_rfl) ?_
            refine sat_prim (v := .int .i64 ((b4.length : Nat) : Int)) (by kernel_rfl) ?_
            refine sat_prim (v := .bool (decide ((0 : Int) < ((b4.length : Nat) : Int)))) (by kernel_rfl) ?_
            by_cases hb0 : 0 < b4.length
            · refine sat_trueP (b := decide ((0 : Int) < ((b4.length : Nat) : Int))) (by kernel_rfl) (decide_eq_true (by omega)) ?_
              exact sat_ret (.tuple #[.agg #[.int .i64 0, .int .i64 0, .int .i64 0, .bool false, .slice none 0 0, .int .i64 0, .bool false, .slice none 0 0, .int .i64 0, .slice none 0 0, .slice none 0 0], .int .i64 9]) (by kernel_rfl) fun w9 h9 => err w9 (by rw [hQ]; unfold getT; rw [decide_eq_true hb0]; rfl)
            · refine sat_falseP (b := decide ((0 : Int) < ((b4.length : Nat) : Int))) (by kernel_rfl) (decide_eq_false (by omega)) ?_
              have e1 : bx.length = (bx.map (·.2)).length := by rw [List.length_map]
              have e2 : sg.length = (sg.map (·.2)).length := by rw [List.length_map]
              have rc : ∀ w9 : Sx.OW, Sx.Le (↑w : Sx.Fr) w4 w9 → RcAt (fun q => w.heap.size ≤ q) w9.toWorld (.agg #[.int .i64 ((vk : Nat) : Int), .int .i64 ((ve : Nat) : Int), .int .i64 ((vc : Nat) : Int), .bool dt.neg, .slice T1 t1 t2, .int .i64 dt.e, .bool dh.neg, .slice H1 u1 u2, .int .i64 dh.e, .slice X bx.length x, .slice Y sg.length y]) (⟨((vk : Nat) : Int), ((ve : Nat) : Int), ((vc : Nat) : Int), dt, dh, bx.map (·.2), sg.map (·.2)⟩) := fun w9 h9 => by
                rw [e1, e2]
                exact mkRc (r := ⟨((vk : Nat) : Int), ((ve : Nat) : Int), ((vc : Nat) : Int), dt, dh, bx.map (·.2), sg.map (·.2)⟩) (h9.rdD r_t) (h9.rdD r_h) (X4.le h9).done (Y4.le h9).done
              refine sat_call #[.agg #[.int .i64 ((vk : Nat) : Int), .int .i64 ((ve : Nat) : Int), .int .i64 ((vc : Nat) : Int), .bool dt.neg, .slice T1 t1 t2, .int .i64 dt.e, .bool dh.neg, .slice H1 u1 u2, .int .i64 dh.e, .slice X bx.length x, .slice Y sg.length y]] (by kernel_rfl) fun w7 h7 => ?_
              have rc7 := rc w7 h7
              refine (rmayRc_any _ (⟨((vk : Nat) : Int), ((ve : Nat) : Int), ((vc : Nat) : Int), dt, dh, bx.map (·.2), sg.map (·.2)⟩) _ (rcAny rc7)).mono ?_
              rintro e v7 ⟨rfl, hb7⟩
              refine ⟨hb7, [.bool (mayR (⟨((vk : Nat) : Int), ((ve : Nat) : Int), ((vc : Nat) : Int), dt, dh, bx.map (·.2), sg.map (·.2)⟩))], _, rfl, by kernel_rfl, by kernel_rfl, fun g7 => ?_⟩
              refine sat_prim (v := .bool (!(mayR (⟨((vk : Nat) : Int), ((ve : Nat) : Int), ((vc : Nat) : Int), dt, dh, bx.map (·.2), sg.map (·.2)⟩)))) (by kernel_rfl) ?_
              cases hm : mayR (⟨((vk : Nat) : Int), ((ve : Nat) : Int), ((vc : Nat) : Int), dt, dh, bx.map (·.2), sg.map (·.2)⟩)
              · refine sat_true (by kernel_rfl) ?_
                exact sat_ret (.tuple #[.agg #[.int .i64 0, .int .i64 0, .int .i64 0, .bool false, .slice none 0 0, .int .i64 0, .bool false, .slice none 0 0, .int .i64 0, .slice none 0 0, .slice none 0 0], .int .i64 9]) (by kernel_rfl) fun w9 h9 => err w9 (by rw [hQ]; unfold getT; rw [hm, Bool.not_false, Bool.or_true]; rfl)
              · refine sat_false (by kernel_rfl) ?_
                refine sat_chkB (by kernel_rfl) ?_
                have hQ2 : getQ b = (⟨((vk : Nat) : Int), ((ve : Nat) : Int), ((vc : Nat) : Int), dt, dh, bx.map (·.2), sg.map (·.2)⟩, 0) := by rw [hQ]; unfold getT; rw [hm, decide_eq_false hb0]; rfl
                exact sat_ret (.tuple #[.agg #[.int .i64 ((vk : Nat) : Int), .int .i64 ((ve : Nat) : Int), .int .i64 ((vc : Nat) : Int), .bool dt.neg, .slice T1 t1 t2, .int .i64 dt.e, .bool dh.neg, .slice H1 u1 u2, .int .i64 dh.e, .slice X bx.length x, .slice Y sg.length y], .int .i64 0]) (by kernel_rfl) fun w9 h9 => ⟨_, by rw [hQ2], by rw [hQ2]; exact rc w9 (g7.trans h9)⟩
          · refine sat_true (by kernel_rfl) ?_
            obtain rfl := isNone_none hbd2
            exact sat_ret (.tuple #[.agg #[.int .i64 0, .int .i64 0, .int .i64 0, .bool false, .slice none 0 0, .int .i64 0, .bool false, .slice none 0 0, .int .i64 0, .slice none 0 0, .slice none 0 0], .int .i64 9]) (by kernel_rfl) fun w9 h9 => err w9 (by unfold getQ; rw [← hSP, hF]; rfl)
      · refine sat_falseP (b := decide (((i : Nat) : Int) < ((n2 : Nat) : Int))) (by kernel_rfl) (decide_eq_false (by omega)) ?_
        have hF : SP = o4.map fun b => ((⟨((vk : Nat) : Int), ((ve : Nat) : Int), ((vc : Nat) : Int), dt, dh, bx.map (·.2), sg.map (·.2)⟩ : Rec), b) := by rw [hsp4, show n2 - i = 0 by omega]; exact bind_end
        clear hsp4
        refine Sx.sat_isbad S4 (by kernel_rfl) (by kernel_rfl) (by kernel_rfl) ?_
        have err : ∀ w9 : Sx.OW, getQ b = (zeroR, 9) → ∃ y : Value, (Value.tuple #[.agg #[.int .i64 0, .int .i64 0, .int .i64 0, .bool false, .slice none 0 0, .int .i64 0, .bool false, .slice none 0 0, .int .i64 0, .slice none 0 0, .slice none 0 0], .int .i64 9]) = .tuple #[y, .int .i64 (getQ b).2] ∧ RcAt (fun q => w.heap.size ≤ q) w9.toWorld y (getQ b).1 := fun w9 hE => ⟨_, by rw [hE], by rw [hE]; exact mkRc (r := zeroR) (RdD.zero _) (RdD.zero _) (Sx.Rows.nil _ _ _) (Sx.Rows.nil _ _ _)⟩
        cases hbd2 : o4.isNone
        · refine sat_false (by kernel_rfl) ?_
          obtain ⟨b4, rfl⟩ := isNone_some hbd2
          have hQ : getQ b = getT (⟨((vk : Nat) : Int), ((ve : Nat) : Int), ((vc : Nat) : Int), dt, dh, bx.map (·.2), sg.map (·.2)⟩) b4 := by unfold getQ; rw [← hSP, hF]; rfl
          obtain ⟨A4, c4, b4', hB4, _, _, hb4⟩ := S4.rd
          obtain rfl := hb4 b4 rfl
          refine sat_prim (v := .pointer (some ⟨g, 0, none⟩)) (by kernel_rfl) ?_
          refine sat_prim (v := .pointer (some ⟨g, 0 + 0, none⟩)) (by kernel_rfl) ?_
          refine Sx.sat_bload (off := 0) (.slice A4 b4.length c4) hB4 S4.bg (by kernel_rfl) rfl (by kernel_rfl) ?_
          refine sat_prim (v := .int .i64 ((b4.length : Nat) : Int)) (by kernel_rfl) ?_
          refine sat_prim (v := .bool (decide ((0 : Int) < ((b4.length : Nat) : Int)))) (by kernel_rfl) ?_
          by_cases hb0 : 0 < b4.length
          · refine sat_trueP (b := decide ((0 : Int) < ((b4.length : Nat) : Int))) (by kernel_rfl) (decide_eq_true (by omega)) ?_
            exact sat_ret (.tuple #[.agg #[.int .i64 0, .int .i64 0, .int .i64 0, .bool false, .slice none 0 0, .int .i64 0, .bool false, .slice none 0 0, .int .i64 0, .slice none 0 0, .slice none 0 0], .int .i64 9]) (by kernel_rfl) fun w9 h9 => err w9 (by rw [hQ]; unfold getT; rw [decide_eq_true hb0]; rfl)
          · refine sat_falseP (b := decide ((0 : Int) < ((b4.length : Nat) : Int))) (by kernel_rfl) (decide_eq_false (by omega)) ?_
            have e1 : bx.length = (bx.map (·.2)).length := by rw [List.length_map]
            have e2 : sg.length = (sg.map (·.2)).length := by rw [List.length_map]
            have rc : ∀ w9 : Sx.OW, Sx.Le (↑w : Sx.Fr) w4 w9 → RcAt (fun q => w.heap.size ≤ q) w9.toWorld (.agg #[.int .i64 ((vk : Nat) : Int), .int .i64 ((ve : Nat) : Int), .int .i64 ((vc : Nat) : Int), .bool dt.neg, .slice T1 t1 t2, .int .i64 dt.e, .bool dh.neg, .slice H1 u1 u2, .int .i64 dh.e, .slice X bx.length x, .slice Y sg.length y]) (⟨((vk : Nat) : Int), ((ve : Nat) : Int), ((vc : Nat) : Int), dt, dh, bx.map (·.2), sg.map (·.2)⟩) := fun w9 h9 => by
              rw [e1, e2]
              exact mkRc (r := ⟨((vk : Nat) : Int), ((ve : Nat) : Int), ((vc : Nat) : Int), dt, dh, bx.map (·.2), sg.map (·.2)⟩) (h9.rdD r_t) (h9.rdD r_h) (X4.le h9).done (Y4.le h9).done
            refine sat_call #[.agg #[.int .i64 ((vk : Nat) : Int), .int .i64 ((ve : Nat) : Int), .int .i64 ((vc : Nat) : Int), .bool dt.neg, .slice T1 t1 t2, .int .i64 dt.e, .bool dh.neg, .slice H1 u1 u2, .int .i64 dh.e, .slice X bx.length x, .slice Y sg.length y]] (by kernel_rfl) fun w7 h7 => ?_
            have rc7 := rc w7 h7
            refine (rmayRc_any _ (⟨((vk : Nat) : Int), ((ve : Nat) : Int), ((vc : Nat) : Int), dt, dh, bx.map (·.2), sg.map (·.2)⟩) _ (rcAny rc7)).mono ?_
            rintro e v7 ⟨rfl, hb7⟩
            refine ⟨hb7, [.bool (mayR (⟨((vk : Nat) : Int), ((ve : Nat) : Int), ((vc : Nat) : Int), dt, dh, bx.map (·.2), sg.map (·.2)⟩))], _, rfl, by kernel_rfl, by kernel_rfl, fun g7 => ?_⟩
            refine sat_prim (v := .bool (!(mayR (⟨((vk : Nat) : Int), ((ve : Nat) : Int), ((vc : Nat) : Int), dt, dh, bx.map (·.2), sg.map (·.2)⟩)))) (by kernel_rfl) ?_
            cases hm : mayR (⟨((vk : Nat) : Int), ((ve : Nat) : Int), ((vc : Nat) : Int), dt, dh, bx.map (·.2), sg.map (·.2)⟩)
            · refine sat_true (by kernel_rfl) ?_
              exact sat_ret (.tuple #[.agg #[.int .i64 0, .int .i64 0, .int .i64 0, .bool false, .slice none 0 0, .int .i64 0, .bool false, .slice none 0 0, .int .i64 0, .slice none 0 0, .slice none 0 0], .int .i64 9]) (by kernel_rfl) fun w9 h9 => err w9 (by rw [hQ]; unfold getT; rw [hm, Bool.not_false, Bool.or_true]; rfl)
            · refine sat_false (by kernel_rfl) ?_
              refine sat_chkB (by kernel_rfl) ?_
              have hQ2 : getQ b = (⟨((vk : Nat) : Int), ((ve : Nat) : Int), ((vc : Nat) : Int), dt, dh, bx.map (·.2), sg.map (·.2)⟩, 0) := by rw [hQ]; unfold getT; rw [hm, decide_eq_false hb0]; rfl
              exact sat_ret (.tuple #[.agg #[.int .i64 ((vk : Nat) : Int), .int .i64 ((ve : Nat) : Int), .int .i64 ((vc : Nat) : Int), .bool dt.neg, .slice T1 t1 t2, .int .i64 dt.e, .bool dh.neg, .slice H1 u1 u2, .int .i64 dh.e, .slice X bx.length x, .slice Y sg.length y], .int .i64 0]) (by kernel_rfl) fun w9 h9 => ⟨_, by rw [hQ2], by rw [hQ2]; exact rc w9 (g7.trans h9)⟩
        · refine sat_true (by kernel_rfl) ?_
          obtain rfl := isNone_none hbd2
          exact sat_ret (.tuple #[.agg #[.int .i64 0, .int .i64 0, .int .i64 0, .bool false, .slice none 0 0, .int .i64 0, .bool false, .slice none 0 0, .int .i64 0, .slice none 0 0, .slice none 0 0], .int .i64 9]) (by kernel_rfl) fun w9 h9 => err w9 (by unfold getQ; rw [← hSP, hF]; rfl)
  · refine sat_falseP (b := decide (((i : Nat) : Int) < ((n : Nat) : Int))) (by kernel_rfl) (decide_eq_false (by omega)) ?_
    have hT : SP = o3.bind fun b6 => andP (qrow 16 (qrow 64 qtb) b6) fun sg b7 => some ((⟨((vk : Nat) : Int), ((ve : Nat) : Int), ((vc : Nat) : Int), dt, dh, bx.map (·.2), sg⟩ : Rec), b7) := by rw [hsp3, show n - i = 0 by omega]; rfl
    clear hsp3
    refine Sx.sat_qcall (p := o3.bind (qnum 16)) S3 #[.pointer (some ⟨g, 0, none⟩), .int .i64 16] (by kernel_rfl) (fun w2 h2 W2 => qnum_any g o3 16 (by omega) _ W2) (fun w2 q2 n2 s2 u e h2 l2 hu S5 kp _ => ?_)
    obtain ⟨rfl, hn2⟩ := hu
    have hT5 := hT.trans (bind_row e)
    have X5 := X3.rd l2 kp
    have r_t5 := l2.rdD r_t
    have r_h5 := l2.rdD r_h
    clear hT h2 l2 e S3 X3 kp r_t r_h
    refine ⟨[.int .i64 ((n2 : Nat) : Int)], rfl, rfl, ?_⟩
    refine sat_loop (fun Kn vs W => ∃ (i : Nat) (sg : List (Value × List Tb)) (s' : Option (List Nat)) (Y : Option Addr) (y : Nat), vs = [.int .i64 ((i : Nat) : Int), .int .i64 ((vk : Nat) : Int), .int .i64 ((ve : Nat) : Int), .int .i64 ((vc : Nat) : Int), .bool dt.neg, .slice T1 t1 t2, .int .i64 dt.e, .bool dh.neg, .slice H1 u1 u2, .int .i64 dh.e, .slice X bx.length x, .slice Y sg.length y] ∧ Kn = n2 - i ∧ i ≤ n2 ∧ sg.length = i ∧ Sx.RqS 94 (↑w : Sx.Fr) W g s' ∧ Sx.Bx Sx.kI 61 45 w.heap.size (↑w : Sx.Fr) W (.slice X bx.length x) bx g ∧ Sx.Bx Sx.kT 50 46 w.heap.size (↑w : Sx.Fr) W (.slice Y sg.length y) sg g ∧ Sx.ApX (.slice Y sg.length y) (.slice X bx.length x) bx ∧ RdD W.toWorld (.agg #[.bool dt.neg, .slice T1 t1 t2, .int .i64 dt.e]) dt ∧ RdD W.toWorld (.agg #[.bool dh.neg, .slice H1 u1 u2, .int .i64 dh.e]) dh ∧ SP = s'.bind fun b => andP (prep (qrow 64 qtb) (n2 - i) (sg.map (·.2)) b) fun sg b7 => some ((⟨((vk : Nat) : Int), ((ve : Nat) : Int), ((vc : Nat) : Int), dt, dh, bx.map (·.2), sg⟩ : Rec), b7)) [.int .i64 0, .int .i64 ((vk : Nat) : Int), .int .i64 ((ve : Nat) : Int), .int .i64 ((vc : Nat) : Int), .bool dt.neg, .slice T1 t1 t2, .int .i64 dt.e, .bool dh.neg, .slice H1 u1 u2, .int .i64 dh.e, .slice X bx.length x, .slice none 0 0] (by kernel_rfl) (fun w1 h1 => ⟨_, 0, [], s2, none, 0, rfl, rfl, by omega, rfl, S5.le h1, X5.le h1, ⟨⟨Sx.Gr.nil (k := Sx.kF w.heap.size (Sx.kS Tb)) (Nat.succ_pos _) _ _ _, fun e => by cases e⟩, fun p hp => (by cases hp)⟩, Sx.ApX.nil, h1.rdD r_t5, h1.rdD r_h5, hT5⟩) ?_
    rintro Kn vs w4 h4 ⟨i, sg, o4, Y, y, rfl, rfl, hi, hsg, S4, X4, Y4, D4, r_t, r_h, hsp4⟩
    clear hT5 h4 S5 X5 r_t5 r_h5
    refine sat_prim (v := .bool (decide (((i : Nat) : Int) < ((n2 : Nat) : Int)))) (by kernel_rfl) ?_
    by_cases hin : i < n2
    · refine sat_trueP (b := decide (((i : Nat) : Int) < ((n2 : Nat) : Int))) (by kernel_rfl) (decide_eq_true (by omega)) ?_
      refine Sx.sat_isbad S4 (by kernel_rfl) (by kernel_rfl) (by kernel_rfl) ?_
      refine sat_prim (v := .bool (!o4.isNone)) (by kernel_rfl) ?_
      cases hbd : o4.isNone
      · refine sat_true (by kernel_rfl) ?_
        have hsp5 := hsp4.trans (bind_prep (m := n2 - i - 1) (by omega))
        refine Sx.sat_qcall (p := o4.bind (qnum 64)) S4 #[.pointer (some ⟨g, 0, none⟩), .int .i64 64] (by kernel_rfl) (fun w2 h2 W2 => qnum_any g o4 64 (by omega) _ W2) (fun w2 q2 m s2 u e h2 l2 hu S5 kp _ => ?_)
        obtain ⟨rfl, hm⟩ := hu
        have hsp6 := hsp5.trans (bind_row e)
        have X5 := X4.rd l2 kp
        have Y5 := Y4.rd l2 kp
        have r_t5 := l2.rdD r_t
        have r_h5 := l2.rdD r_h
        clear hsp4 hsp5 h2 l2 e S4 X4 Y4 kp r_t r_h hbd
        refine ⟨[.int .i64 ((m : Nat) : Int)], rfl, rfl, ?_⟩
        refine sat_loop (fun Kn vs W => ∃ (k : Nat) (row : List Tb) (s' : Option (List Nat)) (Z : Option Addr) (z : Nat), vs = [.int .i64 ((k : Nat) : Int), .slice Z row.length z, .int .i64 ((vk : Nat) : Int), .int .i64 ((ve : Nat) : Int), .int .i64 ((vc : Nat) : Int), .bool dt.neg, .slice T1 t1 t2, .int .i64 dt.e, .bool dh.neg, .slice H1 u1 u2, .int .i64 dh.e, .slice X bx.length x, .slice Y sg.length y] ∧ Kn = m - k ∧ k ≤ m ∧ row.length = k ∧ Sx.RqS 94 (↑w : Sx.Fr) W g s' ∧ Sx.Bx Sx.kI 61 45 w.heap.size (↑w : Sx.Fr) W (.slice X bx.length x) bx g ∧ Sx.Bx Sx.kT 50 46 w.heap.size (↑w : Sx.Fr) W (.slice Y sg.length y) sg g ∧ Sx.ApX (.slice Z row.length z) (.slice X bx.length x) bx ∧ Sx.ApX (.slice Z row.length z) (.slice Y sg.length y) sg ∧ Sx.GrN (Sx.kF w.heap.size Sx.kT) (↑w : Sx.Fr) 50 W (.slice Z row.length z) row g ∧ RdD W.toWorld (.agg #[.bool dt.neg, .slice T1 t1 t2, .int .i64 dt.e]) dt ∧ RdD W.toWorld (.agg #[.bool dh.neg, .slice H1 u1 u2, .int .i64 dh.e]) dh ∧ SP = s'.bind fun b => andP (prep qtb (m - k) row b) fun z b' => andP (prep (qrow 64 qtb) (n2 - i - 1) (sg.map (·.2) ++ [z]) b') fun sg b7 => some ((⟨((vk : Nat) : Int), ((ve : Nat) : Int), ((vc : Nat) : Int), dt, dh, bx.map (·.2), sg⟩ : Rec), b7)) [.int .i64 0, .slice none 0 0, .int .i64 ((vk : Nat) : Int), .int .i64 ((ve : Nat) : Int), .int .i64 ((vc : Nat) : Int), .bool dt.neg, .slice T1 t1 t2, .int .i64 dt.e, .bool dh.neg, .slice H1 u1 u2, .int .i64 dh.e, .slice X bx.length x, .slice Y sg.length y] (by kernel_rfl) (fun w1 h1 => ⟨_, 0, [], s2, none, 0, rfl, rfl, by omega, rfl, S5.le h1, X5.le h1, Y5.le h1, Sx.ApX.nil, Sx.ApX.nil, ⟨Sx.Gr.nil (k := Sx.kF w.heap.size Sx.kT) (Nat.succ_pos _) _ _ _, fun e => by cases e⟩, h1.rdD r_t5, h1.rdD r_h5, hsp6⟩) ?_
        rintro Kn vs w6 h6 ⟨k, row, o6, Z, z, rfl, rfl, hk, hrow, S6, X6, Y6, D6, E6, G6, r_t, r_h, hsp7⟩
        clear hsp6 h6 S5 X5 Y5 r_t5 r_h5
        refine sat_prim (v := .bool (decide (((k : Nat) : Int) < ((m : Nat) : Int)))) (by kernel_rfl) ?_
        by_cases hkm : k < m
        · refine sat_trueP (b := decide (((k : Nat) : Int) < ((m : Nat) : Int))) (by kernel_rfl) (decide_eq_true (by omega)) ?_
          refine Sx.sat_isbad S6 (by kernel_rfl) (by kernel_rfl) (by kernel_rfl) ?_
          refine sat_prim (v := .bool (!o6.isNone)) (by kernel_rfl) ?_
          cases hbd : o6.isNone
          · refine sat_true (by kernel_rfl) ?_
            have hsp8 := hsp7.trans (bind_prep (m := m - k - 1) (by omega))
            refine Sx.sat_qcall (p := o6.bind qtb) S6 #[.pointer (some ⟨g, 0, none⟩)] (by kernel_rfl) (fun w2 h2 W2 => qtb_any g o6 _ W2) (fun w7 o7 e1 s7 u e h7 l7 hu S7 kp mvf => ?_)
            have hsp9 := hsp8.trans (bind_step e)
            obtain ⟨C, d, D, d2, rfl, R1, R2⟩ := hu
            replace R1 := R1.mv mvf
            replace R2 := R2.mv mvf
            have X7 := X6.rd l7 kp
            have Y7 := Y6.rd l7 kp
            have G7 := G6.rd l7 kp
            have r_t7 := l7.rdD r_t
            have r_h7 := l7.rdD r_h
            clear hsp7 hsp8 h7 l7 e S6 X6 Y6 G6 kp mvf r_t r_h hbd
            refine ⟨[.slice C e1.at_.length d, .slice D e1.v.length d2], rfl, rfl, ?_⟩
            refine Sx.sat_qpush1 (k := Sx.kT) (j := 64) e1 [.slice C e1.at_.length d, .slice D e1.v.length d2] G7 S7 (by kernel_rfl) (by kernel_rfl) (by intro y hy; cases hy) (fun r => by kernel_rfl) rfl (fun w' h' => ⟨C, _, d, D, _, d2, rfl, R1.mv h'.mvF, R2.mv h'.mvF⟩) (by unfold maxLen; omega) (by omega) fun r Z' z' o8 l8 oth S8 G8 => ?_
            obtain ⟨X8, D8⟩ := X7.oth oth D6
            obtain ⟨Y8, E8⟩ := Y7.oth oth E6
            have r_t8 := l8.rdD r_t7
            have r_h8 := l8.rdD r_h7
            refine sat_prim (v := .int .i64 ((k + 1 : Nat) : Int)) (Eq.trans (b := some (.int .i64 (IntKind.i64.wrap (((k : Nat) : Int) + 1)))) (by kernel_rfl) (sml (by omega) (by omega))) ?_
            exact sat_back [.int .i64 ((k + 1 : Nat) : Int), .slice Z' (row ++ [e1]).length z', .int .i64 ((vk : Nat) : Int), .int .i64 ((ve : Nat) : Int), .int .i64 ((vc : Nat) : Int), .bool dt.neg, .slice T1 t1 t2, .int .i64 dt.e, .bool dh.neg, .slice H1 u1 u2, .int .i64 dh.e, .slice X bx.length x, .slice Y sg.length y] (by kernel_rfl) fun w9 h9 => ⟨_, by omega, k + 1, row ++ [e1], s7, Z', z', rfl, rfl, by omega, by rw [List.length_append]; simp only [List.length_cons, List.length_nil]; omega, S8.le h9, X8.le h9, Y8.le h9, D8, E8, G8.le h9, h9.rdD r_t8, h9.rdD r_h8, by rw [show m - (k + 1) = m - k - 1 by omega]; exact hsp9⟩
          · refine sat_false (by kernel_rfl) ?_
            obtain rfl := isNone_none hbd
            have hsp8 : SP = (none : Option (List Nat)).bind fun b' => andP (prep (qrow 64 qtb) (n2 - i - 1) (sg.map (·.2) ++ [row]) b') fun sg b7 => some ((⟨((vk : Nat) : Int), ((ve : Nat) : Int), ((vc : Nat) : Int), dt, dh, bx.map (·.2), sg⟩ : Rec), b7) := hsp7
            clear hsp7 hbd
            refine Sx.sat_qpush1 (k := Sx.kS Tb) (j := 62) (.slice Z row.length z, row) [.slice Z row.length z] Y6.gr S6 (by kernel_rfl) (by kernel_rfl) (fun y hy => by obtain rfl := List.mem_singleton.1 hy; kernel_rfl) (fun r => by kernel_rfl) rfl (fun w' h' => ⟨rfl, Z, z, rfl⟩) (by unfold maxLen; omega) (by omega) fun r Y' y' o8 l8 oth S8 G8 => ?_
            have Y8 := Y6.push oth G6 E6 G8
            obtain ⟨X8, D8⟩ := X6.oth oth D4
            have r_t8 := l8.rdD r_t
            have r_h8 := l8.rdD r_h
            refine sat_chkB (by kernel_rfl) ?_
            refine sat_prim (v := .int .i64 ((i + 1 : Nat) : Int)) (Eq.trans (b := some (.int .i64 (IntKind.i64.wrap (((i : Nat) : Int) + 1)))) (by kernel_rfl) (sml (by omega) (by omega))) ?_
            exact Sx.sat_backO (d := 0) (d' := 1) rfl [.int .i64 ((i + 1 : Nat) : Int), .int .i64 ((vk : Nat) : Int), .int .i64 ((ve : Nat) : Int), .int .i64 ((vc : Nat) : Int), .bool dt.neg, .slice T1 t1 t2, .int .i64 dt.e, .bool dh.neg, .slice H1 u1 u2, .int .i64 dh.e, .slice X bx.length x, .slice Y' (sg ++ [(Value.slice Z row.length z, row)]).length y'] (by kernel_rfl) fun w9 h9 => ⟨_, by omega, i + 1, sg ++ [(Value.slice Z row.length z, row)], none, Y', y', rfl, rfl, by omega, by rw [List.length_append]; simp only [List.length_cons, List.length_nil]; omega, S8.le h9, X8.le h9, Y8.le h9, D8, h9.rdD r_t8, h9.rdD r_h8, by rw [List.map_append, show n2 - (i + 1) = n2 - i - 1 by omega]; exact hsp8⟩
        · refine sat_falseP (b := decide (((k : Nat) : Int) < ((m : Nat) : Int))) (by kernel_rfl) (decide_eq_false (by omega)) ?_
          have hsp8 : SP = o6.bind fun b' => andP (prep (qrow 64 qtb) (n2 - i - 1) (sg.map (·.2) ++ [row]) b') fun sg b7 => some ((⟨((vk : Nat) : Int), ((ve : Nat) : Int), ((vc : Nat) : Int), dt, dh, bx.map (·.2), sg⟩ : Rec), b7) := by rw [hsp7, show m - k = 0 by omega]; rfl
          clear hsp7
          refine Sx.sat_qpush1 (k := Sx.kS Tb) (j := 58) (.slice Z row.length z, row) [.slice Z row.length z] Y6.gr S6 (by kernel_rfl) (by kernel_rfl) (fun y hy => by obtain rfl := List.mem_singleton.1 hy; kernel_rfl) (fun r => by kernel_rfl) rfl (fun w' h' => ⟨rfl, Z, z, rfl⟩) (by unfold maxLen; omega) (by omega) fun r Y' y' o8 l8 oth S8 G8 => ?_
          have Y8 := Y6.push oth G6 E6 G8
          obtain ⟨X8, D8⟩ := X6.oth oth D4
          have r_t8 := l8.rdD r_t
          have r_h8 := l8.rdD r_h
          refine sat_chkB (by kernel_rfl) ?_
          refine sat_prim (v := .int .i64 ((i + 1 : Nat) : Int)) (Eq.trans (b := some (.int .i64 (IntKind.i64.wrap (((i : Nat) : Int) + 1)))) (by kernel_rfl) (sml (by omega) (by omega))) ?_
          exact Sx.sat_backO (d := 0) (d' := 1) rfl [.int .i64 ((i + 1 : Nat) : Int), .int .i64 ((vk : Nat) : Int), .int .i64 ((ve : Nat) : Int), .int .i64 ((vc : Nat) : Int), .bool dt.neg, .slice T1 t1 t2, .int .i64 dt.e, .bool dh.neg, .slice H1 u1 u2, .int .i64 dh.e, .slice X bx.length x, .slice Y' (sg ++ [(Value.slice Z row.length z, row)]).length y'] (by kernel_rfl) fun w9 h9 => ⟨_, by omega, i + 1, sg ++ [(Value.slice Z row.length z, row)], o6, Y', y', rfl, rfl, by omega, by rw [List.length_append]; simp only [List.length_cons, List.length_nil]; omega, S8.le h9, X8.le h9, Y8.le h9, D8, h9.rdD r_t8, h9.rdD r_h8, by rw [List.map_append, show n2 - (i + 1) = n2 - i - 1 by omega]; exact hsp8⟩
      · refine sat_false (by kernel_rfl) ?_
        obtain rfl := isNone_none hbd
        have hF : SP = (none : Option (List Nat)).map fun b => ((⟨((vk : Nat) : Int), ((ve : Nat) : Int), ((vc : Nat) : Int), dt, dh, bx.map (·.2), sg.map (·.2)⟩ : Rec), b) := hsp4
        clear hsp4 hbd
        generalize hO4 : (none : Option (List Nat)) = o4 at *
        refine Sx.sat_isbad S4 (by kernel_rfl) (by kernel_rfl) (by kernel_rfl) ?_
        have err : ∀ w9 : Sx.OW, getQ b = (zeroR, 9) → ∃ y : Value, (Value.tuple #[.agg #[.int .i64 0, .int .i64 0, .int .i64 0, .bool false, .slice none 0 0, .int .i64 0, .bool false, .slice none 0 0, .int .i64 0, .slice none 0 0, .slice none 0 0], .int .i64 9]) = .tuple #[y, .int .i64 (getQ b).2] ∧ RcAt (fun q => w.heap.size ≤ q) w9.toWorld y (getQ b).1 := fun w9 hE => ⟨_, by rw [hE], by rw [hE]; exact mkRc (r := zeroR) (RdD.zero _) (RdD.zero _) (Sx.Rows.nil _ _ _) (Sx.Rows.nil _ _ _)⟩
        cases hbd2 : o4.isNone
        · refine sat_false (by kernel_rfl) ?_
          obtain ⟨b4, rfl⟩ := isNone_some hbd2
          have hQ : getQ b = getT (⟨((vk : Nat) : Int), ((ve : Nat) : Int), ((vc : Nat) : Int), dt, dh, bx.map (·.2), sg.map (·.2)⟩) b4 := by unfold getQ; rw [← hSP, hF]; rfl
          obtain ⟨A4, c4, b4', hB4, _, _, hb4⟩ := S4.rd
          obtain rfl := hb4 b4 rfl
          refine sat_prim (v := .pointer (some ⟨g, 0, none⟩)) (by kernel_rfl) ?_
          refine sat_prim (v := .pointer (some ⟨g, 0 + 0, none⟩)) (by kernel_rfl) ?_
          refine Sx.sat_bload (off := 0) (.slice A4 b4.length c4) hB4 S4.bg (by kernel_rfl) rfl (by kernel_rfl) ?_
          refine sat_prim (v := .int .i64 ((b4.length : Nat) : Int)) (by kernel_rfl) ?_
          refine sat_prim (v := .bool (decide ((0 : Int) < ((b4.length : Nat) : Int)))) (by kernel_rfl) ?_
          by_cases hb0 : 0 < b4.length
          · refine sat_trueP (b := decide ((0 : Int) < ((b4.length : Nat) : Int))) (by kernel_rfl) (decide_eq_true (by omega)) ?_
            exact sat_ret (.tuple #[.agg #[.int .i64 0, .int .i64 0, .int .i64 0, .bool false, .slice none 0 0, .int .i64 0, .bool false, .slice none 0 0, .int .i64 0, .slice none 0 0, .slice none 0 0], .int .i64 9]) (by kernel_rfl) fun w9 h9 => err w9 (by rw [hQ]; unfold getT; rw [decide_eq_true hb0]; rfl)
          · refine sat_falseP (b := decide ((0 : Int) < ((b4.length : Nat) : Int))) (by kernel_rfl) (decide_eq_false (by omega)) ?_
            have e1 : bx.length = (bx.map (·.2)).length := by rw [List.length_map]
            have e2 : sg.length = (sg.map (·.2)).length := by rw [List.length_map]
            have rc : ∀ w9 : Sx.OW, Sx.Le (↑w : Sx.Fr) w4 w9 → RcAt (fun q => w.heap.size ≤ q) w9.toWorld (.agg #[.int .i64 ((vk : Nat) : Int), .int .i64 ((ve : Nat) : Int), .int .i64 ((vc : Nat) : Int), .bool dt.neg, .slice T1 t1 t2, .int .i64 dt.e, .bool dh.neg, .slice H1 u1 u2, .int .i64 dh.e, .slice X bx.length x, .slice Y sg.length y]) (⟨((vk : Nat) : Int), ((ve : Nat) : Int), ((vc : Nat) : Int), dt, dh, bx.map (·.2), sg.map (·.2)⟩) := fun w9 h9 => by
              rw [e1, e2]
              exact mkRc (r := ⟨((vk : Nat) : Int), ((ve : Nat) : Int), ((vc : Nat) : Int), dt, dh, bx.map (·.2), sg.map (·.2)⟩) (h9.rdD r_t) (h9.rdD r_h) (X4.le h9).done (Y4.le h9).done
            refine sat_call #[.agg #[.int .i64 ((vk : Nat) : Int), .int .i64 ((ve : Nat) : Int), .int .i64 ((vc : Nat) : Int), .bool dt.neg, .slice T1 t1 t2, .int .i64 dt.e, .bool dh.neg, .slice H1 u1 u2, .int .i64 dh.e, .slice X bx.length x, .slice Y sg.length y]] (by kernel_rfl) fun w7 h7 => ?_
            have rc7 := rc w7 h7
            refine (rmayRc_any _ (⟨((vk : Nat) : Int), ((ve : Nat) : Int), ((vc : Nat) : Int), dt, dh, bx.map (·.2), sg.map (·.2)⟩) _ (rcAny rc7)).mono ?_
            rintro e v7 ⟨rfl, hb7⟩
            refine ⟨hb7, [.bool (mayR (⟨((vk : Nat) : Int), ((ve : Nat) : Int), ((vc : Nat) : Int), dt, dh, bx.map (·.2), sg.map (·.2)⟩))], _, rfl, by kernel_rfl, by kernel_rfl, fun g7 => ?_⟩
            refine sat_prim (v := .bool (!(mayR (⟨((vk : Nat) : Int), ((ve : Nat) : Int), ((vc : Nat) : Int), dt, dh, bx.map (·.2), sg.map (·.2)⟩)))) (by kernel_rfl) ?_
            cases hm : mayR (⟨((vk : Nat) : Int), ((ve : Nat) : Int), ((vc : Nat) : Int), dt, dh, bx.map (·.2), sg.map (·.2)⟩)
            · refine sat_true (by kernel_rfl) ?_
              exact sat_ret (.tuple #[.agg #[.int .i64 0, .int .i64 0, .int .i64 0, .bool false, .slice none 0 0, .int .i64 0, .bool false, .slice none 0 0, .int .i64 0, .slice none 0 0, .slice none 0 0], .int .i64 9]) (by kernel_rfl) fun w9 h9 => err w9 (by rw [hQ]; unfold getT; rw [hm, Bool.not_false, Bool.or_true]; rfl)
            · refine sat_false (by kernel_rfl) ?_
              refine sat_chkB (by kernel_rfl) ?_
              have hQ2 : getQ b = (⟨((vk : Nat) : Int), ((ve : Nat) : Int), ((vc : Nat) : Int), dt, dh, bx.map (·.2), sg.map (·.2)⟩, 0) := by rw [hQ]; unfold getT; rw [hm, decide_eq_false hb0]; rfl
              exact sat_ret (.tuple #[.agg #[.int .i64 ((vk : Nat) : Int), .int .i64 ((ve : Nat) : Int), .int .i64 ((vc : Nat) : Int), .bool dt.neg, .slice T1 t1 t2, .int .i64 dt.e, .bool dh.neg, .slice H1 u1 u2, .int .i64 dh.e, .slice X bx.length x, .slice Y sg.length y], .int .i64 0]) (by kernel_rfl) fun w9 h9 => ⟨_, by rw [hQ2], by rw [hQ2]; exact rc w9 (g7.trans h9)⟩
        · refine sat_true (by kernel_rfl) ?_
          obtain rfl := isNone_none hbd2
          exact sat_ret (.tuple #[.agg #[.int .i64 0, .int .i64 0, .int .i64 0, .bool false, .slice none 0 0, .int .i64 0, .bool false, .slice none 0 0, .int .i64 0, .slice none 0 0, .slice none 0 0], .int .i64 9]) (by kernel_rfl) fun w9 h9 => err w9 (by unfold getQ; rw [← hSP, hF]; rfl)
    · refine sat_falseP (b := decide (((i : Nat) : Int) < ((n2 : Nat) : Int))) (by kernel_rfl) (decide_eq_false (by omega)) ?_
      have hF : SP = o4.map fun b => ((⟨((vk : Nat) : Int), ((ve : Nat) : Int), ((vc : Nat) : Int), dt, dh, bx.map (·.2), sg.map (·.2)⟩ : Rec), b) := by rw [hsp4, show n2 - i = 0 by omega]; exact bind_end
      clear hsp4
      refine Sx.sat_isbad S4 (by kernel_rfl) (by kernel_rfl) (by kernel_rfl) ?_
      have err : ∀ w9 : Sx.OW, getQ b = (zeroR, 9) → ∃ y : Value, (Value.tuple #[.agg #[.int .i64 0, .int .i64 0, .int .i64 0, .bool false, .slice none 0 0, .int .i64 0, .bool false, .slice none 0 0, .int .i64 0, .slice none 0 0, .slice none 0 0], .int .i64 9]) = .tuple #[y, .int .i64 (getQ b).2] ∧ RcAt (fun q => w.heap.size ≤ q) w9.toWorld y (getQ b).1 := fun w9 hE => ⟨_, by rw [hE], by rw [hE]; exact mkRc (r := zeroR) (RdD.zero _) (RdD.zero _) (Sx.Rows.nil _ _ _) (Sx.Rows.nil _ _ _)⟩
      cases hbd2 : o4.isNone
      · refine sat_false (by kernel_rfl) ?_
        obtain ⟨b4, rfl⟩ := isNone_some hbd2
        have hQ : getQ b = getT (⟨((vk : Nat) : Int), ((ve : Nat) : Int), ((vc : Nat) : Int), dt, dh, bx.map (·.2), sg.map (·.2)⟩) b4 := by unfold getQ; rw [← hSP, hF]; rfl
        obtain ⟨A4, c4, b4', hB4, _, _, hb4⟩ := S4.rd
        obtain rfl := hb4 b4 rfl
        refine sat_prim (v := .pointer (some ⟨g, 0, none⟩)) (by kernel_rfl) ?_
        refine sat_prim (v := .pointer (some ⟨g, 0 + 0, none⟩)) (by kernel_rfl) ?_
        refine Sx.sat_bload (off := 0) (.slice A4 b4.length c4) hB4 S4.bg (by kernel_rfl) rfl (by kernel_rfl) ?_
        refine sat_prim (v := .int .i64 ((b4.length : Nat) : Int)) (by kernel_rfl) ?_
        refine sat_prim (v := .bool (decide ((0 : Int) < ((b4.length : Nat) : Int)))) (by kernel_rfl) ?_
        by_cases hb0 : 0 < b4.length
        · refine sat_trueP (b := decide ((0 : Int) < ((b4.length : Nat) : Int))) (by kernel_rfl) (decide_eq_true (by omega)) ?_
          exact sat_ret (.tuple #[.agg #[.int .i64 0, .int .i64 0, .int .i64 0, .bool false, .slice none 0 0, .int .i64 0, .bool false, .slice none 0 0, .int .i64 0, .slice none 0 0, .slice none 0 0], .int .i64 9]) (by kernel_rfl) fun w9 h9 => err w9 (by rw [hQ]; unfold getT; rw [decide_eq_true hb0]; rfl)
        · refine sat_falseP (b := decide ((0 : Int) < ((b4.length : Nat) : Int))) (by kernel_rfl) (decide_eq_false (by omega)) ?_
          have e1 : bx.length = (bx.map (·.2)).length := by rw [List.length_map]
          have e2 : sg.length = (sg.map (·.2)).length := by rw [List.length_map]
          have rc : ∀ w9 : Sx.OW, Sx.Le (↑w : Sx.Fr) w4 w9 → RcAt (fun q => w.heap.size ≤ q) w9.toWorld (.agg #[.int .i64 ((vk : Nat) : Int), .int .i64 ((ve : Nat) : Int), .int .i64 ((vc : Nat) : Int), .bool dt.neg, .slice T1 t1 t2, .int .i64 dt.e, .bool dh.neg, .slice H1 u1 u2, .int .i64 dh.e, .slice X bx.length x, .slice Y sg.length y]) (⟨((vk : Nat) : Int), ((ve : Nat) : Int), ((vc : Nat) : Int), dt, dh, bx.map (·.2), sg.map (·.2)⟩) := fun w9 h9 => by
            rw [e1, e2]
            exact mkRc (r := ⟨((vk : Nat) : Int), ((ve : Nat) : Int), ((vc : Nat) : Int), dt, dh, bx.map (·.2), sg.map (·.2)⟩) (h9.rdD r_t) (h9.rdD r_h) (X4.le h9).done (Y4.le h9).done
          refine sat_call #[.agg #[.int .i64 ((vk : Nat) : Int), .int .i64 ((ve : Nat) : Int), .int .i64 ((vc : Nat) : Int), .bool dt.neg, .slice T1 t1 t2, .int .i64 dt.e, .bool dh.neg, .slice H1 u1 u2, .int .i64 dh.e, .slice X bx.length x, .slice Y sg.length y]] (by kernel_rfl) fun w7 h7 => ?_
          have rc7 := rc w7 h7
          refine (rmayRc_any _ (⟨((vk : Nat) : Int), ((ve : Nat) : Int), ((vc : Nat) : Int), dt, dh, bx.map (·.2), sg.map (·.2)⟩) _ (rcAny rc7)).mono ?_
          rintro e v7 ⟨rfl, hb7⟩
          refine ⟨hb7, [.bool (mayR (⟨((vk : Nat) : Int), ((ve : Nat) : Int), ((vc : Nat) : Int), dt, dh, bx.map (·.2), sg.map (·.2)⟩))], _, rfl, by kernel_rfl, by kernel_rfl, fun g7 => ?_⟩
          refine sat_prim (v := .bool (!(mayR (⟨((vk : Nat) : Int), ((ve : Nat) : Int), ((vc : Nat) : Int), dt, dh, bx.map (·.2), sg.map (·.2)⟩)))) (by kernel_rfl) ?_
          cases hm : mayR (⟨((vk : Nat) : Int), ((ve : Nat) : Int), ((vc : Nat) : Int), dt, dh, bx.map (·.2), sg.map (·.2)⟩)
          · refine sat_true (by kernel_rfl) ?_
            exact sat_ret (.tuple #[.agg #[.int .i64 0, .int .i64 0, .int .i64 0, .bool false, .slice none 0 0, .int .i64 0, .bool false, .slice none 0 0, .int .i64 0, .slice none 0 0, .slice none 0 0], .int .i64 9]) (by kernel_rfl) fun w9 h9 => err w9 (by rw [hQ]; unfold getT; rw [hm, Bool.not_false, Bool.or_true]; rfl)
          · refine sat_false (by kernel_rfl) ?_
            refine sat_chkB (by kernel_rfl) ?_
            have hQ2 : getQ b = (⟨((vk : Nat) : Int), ((ve : Nat) : Int), ((vc : Nat) : Int), dt, dh, bx.map (·.2), sg.map (·.2)⟩, 0) := by rw [hQ]; unfold getT; rw [hm, decide_eq_false hb0]; rfl
            exact sat_ret (.tuple #[.agg #[.int .i64 ((vk : Nat) : Int), .int .i64 ((ve : Nat) : Int), .int .i64 ((vc : Nat) : Int), .bool dt.neg, .slice T1 t1 t2, .int .i64 dt.e, .bool dh.neg, .slice H1 u1 u2, .int .i64 dh.e, .slice X bx.length x, .slice Y sg.length y], .int .i64 0]) (by kernel_rfl) fun w9 h9 => ⟨_, by rw [hQ2], by rw [hQ2]; exact rc w9 (g7.trans h9)⟩
      · refine sat_true (by kernel_rfl) ?_
        obtain rfl := isNone_none hbd2
        exact sat_ret (.tuple #[.agg #[.int .i64 0, .int .i64 0, .int .i64 0, .bool false, .slice none 0 0, .int .i64 0, .bool false, .slice none 0 0, .int .i64 0, .slice none 0 0, .slice none 0 0], .int .i64 9]) (by kernel_rfl) fun w9 h9 => err w9 (by unfold getQ; rw [← hSP, hF]; rfl)

end Go.Proofs.Ytpkfjfpknbhekaa
namespace Go.Proofs.Ytpkfjfpknbhekaa
open Go.RowKit Pl
open Sx (sat_call sat_chk sat_prim sat_ite sat_true sat_false sat_trueP sat_falseP sat_ret sat_alt all_nil all_cons okB okS okI)
def tr_lasks : Sx.Tree := .chk [.lf 0, .lf 1, .lf 2, .lf 3, .lf 4, .lf 5, .lf 6, .lf 7, .lf 8, .lf 9, .lf 10] (.chk [.lf 11, .lf 12, .lf 13, .lf 14, .lf 15, .lf 16, .lf 17, .lf 18, .lf 19, .lf 20, .lf 21] (.call 6 [.ag [.lf 0, .lf 1, .lf 2, .lf 3, .lf 4, .lf 5, .lf 6, .lf 7, .lf 8, .lf 9, .lf 10]] .one (.prim .not [.lf 23] (.ite (.lf 24) (.call 7 [] .one (.ret (.one (.lf 25)))) (.call 6 [.ag [.lf 11, .lf 12, .lf 13, .lf 14, .lf 15, .lf 16, .lf 17, .lf 18, .lf 19, .lf 20, .lf 21]] .one (.prim .not [.lf 25] (.ite (.lf 26) (.call 7 [] .one (.ret (.one (.lf 27)))) (.prim .len [.lf 22] (.prim (.bin .gtr) [.lf 27, .num .i64 600] (.ite (.lf 28) (.call 7 [] .one (.ret (.one (.lf 29)))) (.call 8 [.ag [.lf 0, .lf 1, .lf 2, .lf 3, .lf 4, .lf 5, .lf 6, .lf 7, .lf 8, .lf 9, .lf 10]] .one (.call 9 [.ag [.lf 0, .lf 1, .lf 2, .lf 3, .lf 4, .lf 5, .lf 6, .lf 7, .lf 8, .lf 9, .lf 10]] (.tup [(false, 1), (false, 1)]) (.call 10 [.ag [.lf 0, .lf 1, .lf 2, .lf 3, .lf 4, .lf 5, .lf 6, .lf 7, .lf 8, .lf 9, .lf 10]] .one (.prim (.bbin .neq) [.lf 32, .lf 29] (.ite (.lf 33) (.ret (.one (.bit false))) (.prim (.bin .eql) [.lf 31, .num .i64 0] (.prim (.bbin .neq) [.lf 34, .lf 29] (.ite (.lf 35) (.ret (.one (.bit false))) (.prim .not [.lf 29] (.ite (.lf 36) (.prim (.bin .neq) [.lf 31, .num .i64 1] (.ite (.lf 37) (.ret (.one (.bit false))) (.prim .len [.lf 30] (.prim (.bin .neq) [.lf 38, .num .i64 0] (.ite (.lf 39) (.ret (.one (.bit false))) (.ite (.lf 29) (.conv 29 9 (.lf 30) (.call 11 [.ag [.lf 0, .lf 1, .lf 2, .lf 3, .lf 4, .lf 5, .lf 6, .lf 7, .lf 8, .lf 9, .lf 10]] .one (.conv 29 9 (.lf 41) (.prim (.seq true) [.lf 40, .lf 42] (.ite (.lf 43) (.ret (.one (.bit false))) (.call 12 [.one (.lf 22)] (.tup [(true, 11), (false, 1)]) (.chk [.lf 44, .lf 45, .lf 46, .lf 47, .lf 48, .lf 49, .lf 50, .lf 51, .lf 52, .lf 53, .lf 54] (.call 13 [.one (.lf 22)] (.tup [(true, 11), (false, 1)]) (.chk [.lf 56, .lf 57, .lf 58, .lf 59, .lf 60, .lf 61, .lf 62, .lf 63, .lf 64, .lf 65, .lf 66] (.call 7 [] .one (.ite (.lf 68) (.prim (.bin .eql) [.lf 55, .lf 67] (.ite (.lf 69) (.call 14 [.ag [.lf 44, .lf 45, .lf 46, .lf 47, .lf 48, .lf 49, .lf 50, .lf 51, .lf 52, .lf 53, .lf 54], .ag [.lf 56, .lf 57, .lf 58, .lf 59, .lf 60, .lf 61, .lf 62, .lf 63, .lf 64, .lf 65, .lf 66]] .one (.ite (.lf 70) (.call 15 [.ag [.lf 0, .lf 1, .lf 2, .lf 3, .lf 4, .lf 5, .lf 6, .lf 7, .lf 8, .lf 9, .lf 10], .ag [.lf 11, .lf 12, .lf 13, .lf 14, .lf 15, .lf 16, .lf 17, .lf 18, .lf 19, .lf 20, .lf 21]] .one (.call 14 [.ag [.lf 0, .lf 1, .lf 2, .lf 3, .lf 4, .lf 5, .lf 6, .lf 7, .lf 8, .lf 9, .lf 10], .ag [.lf 11, .lf 12, .lf 13, .lf 14, .lf 15, .lf 16, .lf 17, .lf 18, .lf 19, .lf 20, .lf 21]] .one (.prim (.bbin .eql) [.lf 71, .lf 72] (.ite (.lf 73) (.call 15 [.ag [.lf 0, .lf 1, .lf 2, .lf 3, .lf 4, .lf 5, .lf 6, .lf 7, .lf 8, .lf 9, .lf 10], .ag [.lf 0, .lf 1, .lf 2, .lf 3, .lf 4, .lf 5, .lf 6, .lf 7, .lf 8, .lf 9, .lf 10]] .one (.ret (.one (.lf 74)))) (.ret (.one (.bit false))))))) (.ret (.one (.bit false))))) (.ret (.one (.bit false))))) (.ret (.one (.bit false)))))))))))))) (.call 12 [.one (.lf 22)] (.tup [(true, 11), (false, 1)]) (.chk [.lf 40, .lf 41, .lf 42, .lf 43, .lf 44, .lf 45, .lf 46, .lf 47, .lf 48, .lf 49, .lf 50] (.call 13 [.one (.lf 22)] (.tup [(true, 11), (false, 1)]) (.chk [.lf 52, .lf 53, .lf 54, .lf 55, .lf 56, .lf 57, .lf 58, .lf 59, .lf 60, .lf 61, .lf 62] (.call 7 [] .one (.ite (.lf 64) (.prim (.bin .eql) [.lf 51, .lf 63] (.ite (.lf 65) (.call 14 [.ag [.lf 40, .lf 41, .lf 42, .lf 43, .lf 44, .lf 45, .lf 46, .lf 47, .lf 48, .lf 49, .lf 50], .ag [.lf 52, .lf 53, .lf 54, .lf 55, .lf 56, .lf 57, .lf 58, .lf 59, .lf 60, .lf 61, .lf 62]] .one (.ite (.lf 66) (.call 15 [.ag [.lf 0, .lf 1, .lf 2, .lf 3, .lf 4, .lf 5, .lf 6, .lf 7, .lf 8, .lf 9, .lf 10], .ag [.lf 11, .lf 12, .lf 13, .lf 14, .lf 15, .lf 16, .lf 17, .lf 18, .lf 19, .lf 20, .lf 21]] .one (.call 14 [.ag [.lf 0, .lf 1, .lf 2, .lf 3, .lf 4, .lf 5, .lf 6, .lf 7, .lf 8, .lf 9, .lf 10], .ag [.lf 11, .lf 12, .lf 13, .lf 14, .lf 15, .lf 16, .lf 17, .lf 18, .lf 19, .lf 20, .lf 21]] .one (.prim (.bbin .eql) [.lf 67, .lf 68] (.ite (.lf 69) (.call 15 [.ag [.lf 0, .lf 1, .lf 2, .lf 3, .lf 4, .lf 5, .lf 6, .lf 7, .lf 8, .lf 9, .lf 10], .ag [.lf 0, .lf 1, .lf 2, .lf 3, .lf 4, .lf 5, .lf 6, .lf 7, .lf 8, .lf 9, .lf 10]] .one (.ret (.one (.lf 70)))) (.ret (.one (.bit false))))))) (.ret (.one (.bit false))))) (.ret (.one (.bit false))))) (.ret (.one (.bit false))))))))))))))) (.ite (.lf 29) (.conv 29 9 (.lf 30) (.call 11 [.ag [.lf 0, .lf 1, .lf 2, .lf 3, .lf 4, .lf 5, .lf 6, .lf 7, .lf 8, .lf 9, .lf 10]] .one (.conv 29 9 (.lf 38) (.prim (.seq true) [.lf 37, .lf 39] (.ite (.lf 40) (.ret (.one (.bit false))) (.call 12 [.one (.lf 22)] (.tup [(true, 11), (false, 1)]) (.chk [.lf 41, .lf 42, .lf 43, .lf 44, .lf 45, .lf 46, .lf 47, .lf 48, .lf 49, .lf 50, .lf 51] (.call 13 [.one (.lf 22)] (.tup [(true, 11), (false, 1)]) (.chk [.lf 53, .lf 54, .lf 55, .lf 56, .lf 57, .lf 58, .lf 59, .lf 60, .lf 61, .lf 62, .lf 63] (.call 7 [] .one (.ite (.lf 65) (.prim (.bin .eql) [.lf 52, .lf 64] (.ite (.lf 66) (.call 14 [.ag [.lf 41, .lf 42, .lf 43, .lf 44, .lf 45, .lf 46, .lf 47, .lf 48, .lf 49, .lf 50, .lf 51], .ag [.lf 53, .lf 54, .lf 55, .lf 56, .lf 57, .lf 58, .lf 59, .lf 60, .lf 61, .lf 62, .lf 63]] .one (.ite (.lf 67) (.call 15 [.ag [.lf 0, .lf 1, .lf 2, .lf 3, .lf 4, .lf 5, .lf 6, .lf 7, .lf 8, .lf 9, .lf 10], .ag [.lf 11, .lf 12, .lf 13, .lf 14, .lf 15, .lf 16, .lf 17, .lf 18, .lf 19, .lf 20, .lf 21]] .one (.call 14 [.ag [.lf 0, .lf 1, .lf 2, .lf 3, .lf 4, .lf 5, .lf 6, .lf 7, .lf 8, .lf 9, .lf 10], .ag [.lf 11, .lf 12, .lf 13, .lf 14, .lf 15, .lf 16, .lf 17, .lf 18, .lf 19, .lf 20, .lf 21]] .one (.prim (.bbin .eql) [.lf 68, .lf 69] (.ite (.lf 70) (.call 15 [.ag [.lf 0, .lf 1, .lf 2, .lf 3, .lf 4, .lf 5, .lf 6, .lf 7, .lf 8, .lf 9, .lf 10], .ag [.lf 0, .lf 1, .lf 2, .lf 3, .lf 4, .lf 5, .lf 6, .lf 7, .lf 8, .lf 9, .lf 10]] .one (.ret (.one (.lf 71)))) (.ret (.one (.bit false))))))) (.ret (.one (.bit false))))) (.ret (.one (.bit false))))) (.ret (.one (.bit false)))))))))))))) (.call 12 [.one (.lf 22)] (.tup [(true, 11), (false, 1)]) (.chk [.lf 37, .lf 38, .lf 39, .lf 40, .lf 41, .lf 42, .lf 43, .lf 44, .lf 45, .lf 46, .lf 47] (.call 13 [.one (.lf 22)] (.tup [(true, 11), (false, 1)]) (.chk [.lf 49, .lf 50, .lf 51, .lf 52, .lf 53, .lf 54, .lf 55, .lf 56, .lf 57, .lf 58, .lf 59] (.call 7 [] .one (.ite (.lf 61) (.prim (.bin .eql) [.lf 48, .lf 60] (.ite (.lf 62) (.call 14 [.ag [.lf 37, .lf 38, .lf 39, .lf 40, .lf 41, .lf 42, .lf 43, .lf 44, .lf 45, .lf 46, .lf 47], .ag [.lf 49, .lf 50, .lf 51, .lf 52, .lf 53, .lf 54, .lf 55, .lf 56, .lf 57, .lf 58, .lf 59]] .one (.ite (.lf 63) (.call 15 [.ag [.lf 0, .lf 1, .lf 2, .lf 3, .lf 4, .lf 5, .lf 6, .lf 7, .lf 8, .lf 9, .lf 10], .ag [.lf 11, .lf 12, .lf 13, .lf 14, .lf 15, .lf 16, .lf 17, .lf 18, .lf 19, .lf 20, .lf 21]] .one (.call 14 [.ag [.lf 0, .lf 1, .lf 2, .lf 3, .lf 4, .lf 5, .lf 6, .lf 7, .lf 8, .lf 9, .lf 10], .ag [.lf 11, .lf 12, .lf 13, .lf 14, .lf 15, .lf 16, .lf 17, .lf 18, .lf 19, .lf 20, .lf 21]] .one (.prim (.bbin .eql) [.lf 64, .lf 65] (.ite (.lf 66) (.call 15 [.ag [.lf 0, .lf 1, .lf 2, .lf 3, .lf 4, .lf 5, .lf 6, .lf 7, .lf 8, .lf 9, .lf 10], .ag [.lf 0, .lf 1, .lf 2, .lf 3, .lf 4, .lf 5, .lf 6, .lf 7, .lf 8, .lf 9, .lf 10]] .one (.ret (.one (.lf 67)))) (.ret (.one (.bit false))))))) (.ret (.one (.bit false))))) (.ret (.one (.bit false))))) (.ret (.one (.bit false))))))))))))))))))))))))))))))
theorem tr_lasks_eq : Sx.treeAt Try.prog 3 [] [] [(true, 11), (true, 11), (false, 1)] = some tr_lasks := by kernel_rfl
set_option maxHeartbeats 4000000 in
theorem ledgerAsks_any (v_r v_s : Value) (r s : Rec) (A_b : Option Addr) (c_b : Nat) (b : List Nat) (w : World) (h_r : RcAt (fun _ => True) w v_r r) (h_s : RcAt (fun _ => True) w v_s s) (R_b : RdN .u8 w A_b b.length c_b b) (hl : Byt b) :
    Calls Try.prog 3 #[v_r, v_s, .slice A_b b.length c_b] w fun e w' => e = .returned (.bool true) ∧ Below w.heap.size w w' := by
  obtain ⟨A_r1, n_r1, c_r1, A_r2, n_r2, c_r2, X_r, x_r, Y_r, y_r, rfl, r_r1, r_r2, F_r3, F_r4⟩ := h_r
  obtain ⟨A_s1, n_s1, c_s1, A_s2, n_s2, c_s2, X_s, x_s, Y_s, y_s, rfl, r_s1, r_s2, F_s3, F_s4⟩ := h_s
  replace F_r3 := F_r3.start
  replace F_r4 := F_r4.start
  replace F_s3 := F_s3.start
  replace F_s4 := F_s4.start
  refine (Sx.runA [] [] (ls := [.int .i64 r.kind, .int .i64 r.epoch, .int .i64 r.code, .bool r.t.neg, .slice A_r1 n_r1 c_r1, .int .i64 r.t.e, .bool r.h.neg, .slice A_r2 n_r2 c_r2, .int .i64 r.h.e, .slice X_r r.boxes.length x_r, .slice Y_r r.sigs.length y_r, .int .i64 s.kind, .int .i64 s.epoch, .int .i64 s.code, .bool s.t.neg, .slice A_s1 n_s1 c_s1, .int .i64 s.t.e, .bool s.h.neg, .slice A_s2 n_s2 c_s2, .int .i64 s.h.e, .slice X_s s.boxes.length x_s, .slice Y_s s.sigs.length y_s, .slice A_b b.length c_b]) (shs := [(true, 11), (true, 11), (false, 1)]) (R := fun v _ => v = .bool true) tr_lasks_eq rfl (by decide) (fun q h => by cases h) ?_).mono (fun e w' ⟨v, he, hv, hb⟩ => ⟨by rw [he, hv], hb⟩)
  unfold tr_lasks
  refine sat_chkB (by kernel_rfl) ?_
  refine sat_chkB (by kernel_rfl) ?_
  refine sat_call #[.agg #[.int .i64 r.kind, .int .i64 r.epoch, .int .i64 r.code, .bool r.t.neg, .slice A_r1 n_r1 c_r1, .int .i64 r.t.e, .bool r.h.neg, .slice A_r2 n_r2 c_r2, .int .i64 r.h.e, .slice X_r r.boxes.length x_r, .slice Y_r r.sigs.length y_r]] (by kernel_rfl) fun w1 h1 => ?_
  refine (fewR_any _ r _ (mkRc (r := r) (h1.rdD r_r1) (h1.rdD r_r2) ((F_r3.mv h1.mv).any) ((F_r4.mv h1.mv).any))).mono ?_
  rintro e v1 ⟨⟨q1, rfl⟩, hb1⟩
  refine ⟨hb1, [.bool q1], _, rfl, by kernel_rfl, by kernel_rfl, fun g1 => ?_⟩
  replace r_r1 := g1.rdD r_r1; replace r_r2 := g1.rdD r_r2; replace F_r3 := F_r3.mv g1.mv; replace F_r4 := F_r4.mv g1.mv; replace r_s1 := g1.rdD r_s1; replace r_s2 := g1.rdD r_s2; replace F_s3 := F_s3.mv g1.mv; replace F_s4 := F_s4.mv g1.mv; replace R_b := g1.rd (by decide) R_b
  clear h1 hb1
  refine sat_prim (v := .bool (!q1)) (by kernel_rfl) ?_
  cases hq1 : q1
  · refine sat_true (by kernel_rfl) ?_
    refine sat_call #[] (by kernel_rfl) fun w2 h2 => ?_
    refine (told21_any _).mono ?_
    rintro e v2 ⟨rfl, hb2⟩
    refine ⟨hb2, [.bool true], _, rfl, by kernel_rfl, by kernel_rfl, fun g2 => ?_⟩
    replace r_r1 := g2.rdD r_r1; replace r_r2 := g2.rdD r_r2; replace F_r3 := F_r3.mv g2.mv; replace F_r4 := F_r4.mv g2.mv; replace r_s1 := g2.rdD r_s1; replace r_s2 := g2.rdD r_s2; replace F_s3 := F_s3.mv g2.mv; replace F_s4 := F_s4.mv g2.mv; replace R_b := g2.rd (by decide) R_b
    clear h2 hb2
    exact sat_ret (.bool true) (by kernel_rfl) fun w9 h9 => rfl
  · refine sat_false (by kernel_rfl) ?_
    refine sat_call #[.agg #[.int .i64 s.kind, .int .i64 s.epoch, .int .i64 s.code, .bool s.t.neg, .slice A_s1 n_s1 c_s1, .int .i64 s.t.e, .bool s.h.neg, .slice A_s2 n_s2 c_s2, .int .i64 s.h.e, .slice X_s s.boxes.length x_s, .slice Y_s s.sigs.length y_s]] (by kernel_rfl) fun w2 h2 => ?_
    refine (fewR_any _ s _ (mkRc (r := s) (h2.rdD r_s1) (h2.rdD r_s2) ((F_s3.mv h2.mv).any) ((F_s4.mv h2.mv).any))).mono ?_
    rintro e v2 ⟨⟨q2, rfl⟩, hb2⟩
    refine ⟨hb2, [.bool q2], _, rfl, by kernel_rfl, by kernel_rfl, fun g2 => ?_⟩
    replace r_r1 := g2.rdD r_r1; replace r_r2 := g2.rdD r_r2; replace F_r3 := F_r3.mv g2.mv; replace F_r4 := F_r4.mv g2.mv; replace r_s1 := g2.rdD r_s1; replace r_s2 := g2.rdD r_s2; replace F_s3 := F_s3.mv g2.mv; replace F_s4 := F_s4.mv g2.mv; replace R_b := g2.rd (by decide) R_b
    clear h2 hb2
    refine sat_prim (v := .bool (!q2)) (by kernel_rfl) ?_
    cases hq2 : q2
    · refine sat_true (by kernel_rfl) ?_
      refine sat_call #[] (by kernel_rfl) fun w3 h3 => ?_
      refine (told21_any _).mono ?_
      rintro e v3 ⟨rfl, hb3⟩
      refine ⟨hb3, [.bool true], _, rfl, by kernel_rfl, by kernel_rfl, fun g3 => ?_⟩
      replace r_r1 := g3.rdD r_r1; replace r_r2 := g3.rdD r_r2; replace F_r3 := F_r3.mv g3.mv; replace F_r4 := F_r4.mv g3.mv; replace r_s1 := g3.rdD r_s1; replace r_s2 := g3.rdD r_s2; replace F_s3 := F_s3.mv g3.mv; replace F_s4 := F_s4.mv g3.mv; replace R_b := g3.rd (by decide) R_b
      clear h3 hb3
      exact sat_ret (.bool true) (by kernel_rfl) fun w9 h9 => rfl
    · refine sat_false (by kernel_rfl) ?_
      refine sat_prim (v := .int .i64 ((b.length : Nat) : Int)) (by kernel_rfl) ?_
      refine sat_prim (v := .bool (decide ((600 : Int) < ((b.length : Nat) : Int)))) (by kernel_rfl) ?_
      cases hb6 : decide ((600 : Int) < ((b.length : Nat) : Int))
      · refine sat_false (by kernel_rfl) ?_
        have hb6n : ¬ (600 < b.length) := by have := of_decide_eq_false hb6; omega
        cases hm : mayR r
        · refine sat_call #[.agg #[.int .i64 r.kind, .int .i64 r.epoch, .int .i64 r.code, .bool r.t.neg, .slice A_r1 n_r1 c_r1, .int .i64 r.t.e, .bool r.h.neg, .slice A_r2 n_r2 c_r2, .int .i64 r.h.e, .slice X_r r.boxes.length x_r, .slice Y_r r.sigs.length y_r]] (by kernel_rfl) fun w3 h3 => ?_
          refine (rmayRc_any _ r _ (mkRc (r := r) (h3.rdD r_r1) (h3.rdD r_r2) ((F_r3.mv h3.mv).any) ((F_r4.mv h3.mv).any))).mono ?_
          rw [hm]
          rintro e v3 ⟨rfl, hb3⟩
          refine ⟨hb3, [.bool false], _, rfl, by kernel_rfl, by kernel_rfl, fun g3 => ?_⟩
          replace r_r1 := g3.rdD r_r1; replace r_r2 := g3.rdD r_r2; replace F_r3 := F_r3.mv g3.mv; replace F_r4 := F_r4.mv g3.mv; replace r_s1 := g3.rdD r_s1; replace r_s2 := g3.rdD r_s2; replace F_s3 := F_s3.mv g3.mv; replace F_s4 := F_s4.mv g3.mv; replace R_b := g3.rd (by decide) R_b
          clear h3 hb3
          refine sat_call #[.agg #[.int .i64 r.kind, .int .i64 r.epoch, .int .i64 r.code, .bool r.t.neg, .slice A_r1 n_r1 c_r1, .int .i64 r.t.e, .bool r.h.neg, .slice A_r2 n_r2 c_r2, .int .i64 r.h.e, .slice X_r r.boxes.length x_r, .slice Y_r r.sigs.length y_r]] (by kernel_rfl) fun w4 h4 => ?_
          refine (putR_any _ r _ (mkRc (r := r) (h4.rdD r_r1) (h4.rdD r_r2) ((F_r3.mv h4.mv).any) ((F_r4.mv h4.mv).any))).mono ?_
          rintro e v4 ⟨⟨A_p, c_p, rfl, FP⟩, hb4⟩
          rw [putB_no hm] at FP
          rw [putB_no hm, putE_no hm]
          refine ⟨hb4, [.slice A_p ([] : List Nat).length c_p, .int .i64 1], _, rfl, by kernel_rfl, by kernel_rfl, fun g4 => ?_⟩
          replace r_r1 := g4.rdD r_r1; replace r_r2 := g4.rdD r_r2; replace F_r3 := F_r3.mv g4.mv; replace F_r4 := F_r4.mv g4.mv; replace r_s1 := g4.rdD r_s1; replace r_s2 := g4.rdD r_s2; replace F_s3 := F_s3.mv g4.mv; replace F_s4 := F_s4.mv g4.mv; replace R_b := g4.rd (by decide) R_b
          replace FP := FP.mv (Sx.Mv.fresh h4.wf)
          clear h4 hb4
          refine sat_call #[.agg #[.int .i64 r.kind, .int .i64 r.epoch, .int .i64 r.code, .bool r.t.neg, .slice A_r1 n_r1 c_r1, .int .i64 r.t.e, .bool r.h.neg, .slice A_r2 n_r2 c_r2, .int .i64 r.h.e, .slice X_r r.boxes.length x_r, .slice Y_r r.sigs.length y_r]] (by kernel_rfl) fun w5 h5 => ?_
          refine (mayRc_any _ r _ (mkRc (r := r) (h5.rdD r_r1) (h5.rdD r_r2) ((F_r3.mv h5.mv).any) ((F_r4.mv h5.mv).any))).mono ?_
          rw [hm]
          rintro e v5 ⟨rfl, hb5⟩
          refine ⟨hb5, [.bool false], _, rfl, by kernel_rfl, by kernel_rfl, fun g5 => ?_⟩
          replace r_r1 := g5.rdD r_r1; replace r_r2 := g5.rdD r_r2; replace F_r3 := F_r3.mv g5.mv; replace F_r4 := F_r4.mv g5.mv; replace r_s1 := g5.rdD r_s1; replace r_s2 := g5.rdD r_s2; replace F_s3 := F_s3.mv g5.mv; replace F_s4 := F_s4.mv g5.mv; replace R_b := g5.rd (by decide) R_b; replace FP := FP.mv g5.mv
          clear h5 hb5
          refine sat_prim (v := .bool false) (by kernel_rfl) ?_
          refine sat_false (by kernel_rfl) ?_
          refine sat_prim (v := .bool false) (by kernel_rfl) ?_
          refine sat_prim (v := .bool false) (by kernel_rfl) ?_
          refine sat_false (by kernel_rfl) ?_
          refine sat_prim (v := .bool true) (by kernel_rfl) ?_
          refine sat_true (by kernel_rfl) ?_
          refine sat_prim (v := .bool false) (by kernel_rfl) ?_
          refine sat_false (by kernel_rfl) ?_
          refine sat_prim (v := .int .i64 0) (by kernel_rfl) ?_
          refine sat_prim (v := .bool false) (by kernel_rfl) ?_
          refine sat_false (by kernel_rfl) ?_
          refine sat_false (by kernel_rfl) ?_
          refine sat_call #[.slice A_b b.length c_b] (by kernel_rfl) fun w6 h6 => ?_
          refine (getR_any A_b c_b b _ (h6.rd (by decide) R_b) hl).mono ?_
          rintro e v6 ⟨⟨_, rfl, hA⟩, hb6⟩
          generalize hQ : getS b = Q at *
          obtain ⟨A_y1, n_y1, c_y1, A_y2, n_y2, c_y2, X_y, x_y, Y_y, y_y, rfl, r_y1, r_y2, F_y3, F_y4⟩ := hA
          refine ⟨hb6, [.int .i64 Q.1.kind, .int .i64 Q.1.epoch, .int .i64 Q.1.code, .bool Q.1.t.neg, .slice A_y1 n_y1 c_y1, .int .i64 Q.1.t.e, .bool Q.1.h.neg, .slice A_y2 n_y2 c_y2, .int .i64 Q.1.h.e, .slice X_y Q.1.boxes.length x_y, .slice Y_y Q.1.sigs.length y_y, .int .i64 Q.2], _, rfl, by kernel_rfl, by kernel_rfl, fun g6 => ?_⟩
          replace r_r1 := g6.rdD r_r1; replace r_r2 := g6.rdD r_r2; replace F_r3 := F_r3.mv g6.mv; replace F_r4 := F_r4.mv g6.mv; replace r_s1 := g6.rdD r_s1; replace r_s2 := g6.rdD r_s2; replace F_s3 := F_s3.mv g6.mv; replace F_s4 := F_s4.mv g6.mv; replace R_b := g6.rd (by decide) R_b; replace FP := FP.mv g6.mv
          replace F_y3 := F_y3.mv (Sx.Mv.fresh h6.wf)
          replace F_y4 := F_y4.mv (Sx.Mv.fresh h6.wf)
          clear h6 hb6
          refine sat_chkB (by kernel_rfl) ?_
          refine sat_call #[.slice A_b b.length c_b] (by kernel_rfl) fun w7 h7 => ?_
          refine (getQ_any A_b c_b b _ (h7.rd (by decide) R_b) hl).mono ?_
          rintro e v7 ⟨⟨_, rfl, hA⟩, hb7⟩
          rw [getS_getQ hl, hQ] at hA
          rw [getS_getQ hl, hQ]
          obtain ⟨A_z1, n_z1, c_z1, A_z2, n_z2, c_z2, X_z, x_z, Y_z, y_z, rfl, r_z1, r_z2, F_z3, F_z4⟩ := hA
          refine ⟨hb7, [.int .i64 Q.1.kind, .int .i64 Q.1.epoch, .int .i64 Q.1.code, .bool Q.1.t.neg, .slice A_z1 n_z1 c_z1, .int .i64 Q.1.t.e, .bool Q.1.h.neg, .slice A_z2 n_z2 c_z2, .int .i64 Q.1.h.e, .slice X_z Q.1.boxes.length x_z, .slice Y_z Q.1.sigs.length y_z, .int .i64 Q.2], _, rfl, by kernel_rfl, by kernel_rfl, fun g7 => ?_⟩
          replace r_r1 := g7.rdD r_r1; replace r_r2 := g7.rdD r_r2; replace F_r3 := F_r3.mv g7.mv; replace F_r4 := F_r4.mv g7.mv; replace r_s1 := g7.rdD r_s1; replace r_s2 := g7.rdD r_s2; replace F_s3 := F_s3.mv g7.mv; replace F_s4 := F_s4.mv g7.mv; replace R_b := g7.rd (by decide) R_b; replace FP := FP.mv g7.mv; replace r_y1 := g7.rdD r_y1; replace r_y2 := g7.rdD r_y2; replace F_y3 := F_y3.mv g7.mv; replace F_y4 := F_y4.mv g7.mv
          replace F_z3 := F_z3.mv (Sx.Mv.fresh h7.wf)
          replace F_z4 := F_z4.mv (Sx.Mv.fresh h7.wf)
          clear h7 hb7
          refine sat_chkB (by kernel_rfl) ?_
          refine sat_call #[] (by kernel_rfl) fun w8 h8 => ?_
          refine (told21_any _).mono ?_
          rintro e v8 ⟨rfl, hb8⟩
          refine ⟨hb8, [.bool true], _, rfl, by kernel_rfl, by kernel_rfl, fun g8 => ?_⟩
          replace r_r1 := g8.rdD r_r1; replace r_r2 := g8.rdD r_r2; replace F_r3 := F_r3.mv g8.mv; replace F_r4 := F_r4.mv g8.mv; replace r_s1 := g8.rdD r_s1; replace r_s2 := g8.rdD r_s2; replace F_s3 := F_s3.mv g8.mv; replace F_s4 := F_s4.mv g8.mv; replace R_b := g8.rd (by decide) R_b; replace FP := FP.mv g8.mv; replace r_y1 := g8.rdD r_y1; replace r_y2 := g8.rdD r_y2; replace F_y3 := F_y3.mv g8.mv; replace F_y4 := F_y4.mv g8.mv; replace r_z1 := g8.rdD r_z1; replace r_z2 := g8.rdD r_z2; replace F_z3 := F_z3.mv g8.mv; replace F_z4 := F_z4.mv g8.mv
          clear h8 hb8
          refine sat_true (by kernel_rfl) ?_
          refine sat_prim (v := .bool true) (Eq.trans (b := some (Value.bool (Q.2 == Q.2))) (by kernel_rfl) (by rw [beq_self_eq_true])) ?_
          refine sat_true (by kernel_rfl) ?_
          refine sat_call #[.agg #[.int .i64 Q.1.kind, .int .i64 Q.1.epoch, .int .i64 Q.1.code, .bool Q.1.t.neg, .slice A_y1 n_y1 c_y1, .int .i64 Q.1.t.e, .bool Q.1.h.neg, .slice A_y2 n_y2 c_y2, .int .i64 Q.1.h.e, .slice X_y Q.1.boxes.length x_y, .slice Y_y Q.1.sigs.length y_y], .agg #[.int .i64 Q.1.kind, .int .i64 Q.1.epoch, .int .i64 Q.1.code, .bool Q.1.t.neg, .slice A_z1 n_z1 c_z1, .int .i64 Q.1.t.e, .bool Q.1.h.neg, .slice A_z2 n_z2 c_z2, .int .i64 Q.1.h.e, .slice X_z Q.1.boxes.length x_z, .slice Y_z Q.1.sigs.length y_z]] (by kernel_rfl) fun w9 h9 => ?_
          refine (rsameR_any _ _ Q.1 Q.1 _ (mkRc (r := Q.1) (h9.rdD r_y1) (h9.rdD r_y2) ((F_y3.mv h9.mv).any) ((F_y4.mv h9.mv).any)) (mkRc (r := Q.1) (h9.rdD r_z1) (h9.rdD r_z2) ((F_z3.mv h9.mv).any) ((F_z4.mv h9.mv).any))).mono ?_
          rw [sameRc_self]
          rintro e v9 ⟨rfl, hb9⟩
          refine ⟨hb9, [.bool true], _, rfl, by kernel_rfl, by kernel_rfl, fun g9 => ?_⟩
          replace r_r1 := g9.rdD r_r1; replace r_r2 := g9.rdD r_r2; replace F_r3 := F_r3.mv g9.mv; replace F_r4 := F_r4.mv g9.mv; replace r_s1 := g9.rdD r_s1; replace r_s2 := g9.rdD r_s2; replace F_s3 := F_s3.mv g9.mv; replace F_s4 := F_s4.mv g9.mv; replace R_b := g9.rd (by decide) R_b; replace FP := FP.mv g9.mv; replace r_y1 := g9.rdD r_y1; replace r_y2 := g9.rdD r_y2; replace F_y3 := F_y3.mv g9.mv; replace F_y4 := F_y4.mv g9.mv; replace r_z1 := g9.rdD r_z1; replace r_z2 := g9.rdD r_z2; replace F_z3 := F_z3.mv g9.mv; replace F_z4 := F_z4.mv g9.mv
          clear h9 hb9
          refine sat_true (by kernel_rfl) ?_
          refine sat_call #[.agg #[.int .i64 r.kind, .int .i64 r.epoch, .int .i64 r.code, .bool r.t.neg, .slice A_r1 n_r1 c_r1, .int .i64 r.t.e, .bool r.h.neg, .slice A_r2 n_r2 c_r2, .int .i64 r.h.e, .slice X_r r.boxes.length x_r, .slice Y_r r.sigs.length y_r], .agg #[.int .i64 s.kind, .int .i64 s.epoch, .int .i64 s.code, .bool s.t.neg, .slice A_s1 n_s1 c_s1, .int .i64 s.t.e, .bool s.h.neg, .slice A_s2 n_s2 c_s2, .int .i64 s.h.e, .slice X_s s.boxes.length x_s, .slice Y_s s.sigs.length y_s]] (by kernel_rfl) fun w10 h10 => ?_
          refine (sameR_any _ _ r s _ (mkRc (r := r) (h10.rdD r_r1) (h10.rdD r_r2) ((F_r3.mv h10.mv).any) ((F_r4.mv h10.mv).any)) (mkRc (r := s) (h10.rdD r_s1) (h10.rdD r_s2) ((F_s3.mv h10.mv).any) ((F_s4.mv h10.mv).any))).mono ?_
          rintro e v10 ⟨rfl, hb10⟩
          refine ⟨hb10, [.bool (sameRc r s)], _, rfl, by kernel_rfl, by kernel_rfl, fun g10 => ?_⟩
          replace r_r1 := g10.rdD r_r1; replace r_r2 := g10.rdD r_r2; replace F_r3 := F_r3.mv g10.mv; replace F_r4 := F_r4.mv g10.mv; replace r_s1 := g10.rdD r_s1; replace r_s2 := g10.rdD r_s2; replace F_s3 := F_s3.mv g10.mv; replace F_s4 := F_s4.mv g10.mv; replace R_b := g10.rd (by decide) R_b; replace FP := FP.mv g10.mv; replace r_y1 := g10.rdD r_y1; replace r_y2 := g10.rdD r_y2; replace F_y3 := F_y3.mv g10.mv; replace F_y4 := F_y4.mv g10.mv; replace r_z1 := g10.rdD r_z1; replace r_z2 := g10.rdD r_z2; replace F_z3 := F_z3.mv g10.mv; replace F_z4 := F_z4.mv g10.mv
          clear h10 hb10
          refine sat_call #[.agg #[.int .i64 r.kind, .int .i64 r.epoch, .int .i64 r.code, .bool r.t.neg, .slice A_r1 n_r1 c_r1, .int .i64 r.t.e, .bool r.h.neg, .slice A_r2 n_r2 c_r2, .int .i64 r.h.e, .slice X_r r.boxes.length x_r, .slice Y_r r.sigs.length y_r], .agg #[.int .i64 s.kind, .int .i64 s.epoch, .int .i64 s.code, .bool s.t.neg, .slice A_s1 n_s1 c_s1, .int .i64 s.t.e, .bool s.h.neg, .slice A_s2 n_s2 c_s2, .int .i64 s.h.e, .slice X_s s.boxes.length x_s, .slice Y_s s.sigs.length y_s]] (by kernel_rfl) fun w11 h11 => ?_
          refine (rsameR_any _ _ r s _ (mkRc (r := r) (h11.rdD r_r1) (h11.rdD r_r2) ((F_r3.mv h11.mv).any) ((F_r4.mv h11.mv).any)) (mkRc (r := s) (h11.rdD r_s1) (h11.rdD r_s2) ((F_s3.mv h11.mv).any) ((F_s4.mv h11.mv).any))).mono ?_
          rintro e v11 ⟨rfl, hb11⟩
          refine ⟨hb11, [.bool (sameRc r s)], _, rfl, by kernel_rfl, by kernel_rfl, fun g11 => ?_⟩
          replace r_r1 := g11.rdD r_r1; replace r_r2 := g11.rdD r_r2; replace F_r3 := F_r3.mv g11.mv; replace F_r4 := F_r4.mv g11.mv; replace r_s1 := g11.rdD r_s1; replace r_s2 := g11.rdD r_s2; replace F_s3 := F_s3.mv g11.mv; replace F_s4 := F_s4.mv g11.mv; replace R_b := g11.rd (by decide) R_b; replace FP := FP.mv g11.mv; replace r_y1 := g11.rdD r_y1; replace r_y2 := g11.rdD r_y2; replace F_y3 := F_y3.mv g11.mv; replace F_y4 := F_y4.mv g11.mv; replace r_z1 := g11.rdD r_z1; replace r_z2 := g11.rdD r_z2; replace F_z3 := F_z3.mv g11.mv; replace F_z4 := F_z4.mv g11.mv
          clear h11 hb11
          refine sat_prim (v := .bool true) (Eq.trans (b := some (Value.bool ((sameRc r s) == (sameRc r s)))) (by kernel_rfl) (by rw [beq_self_eq_true])) ?_
          refine sat_true (by kernel_rfl) ?_
          refine sat_call #[.agg #[.int .i64 r.kind, .int .i64 r.epoch, .int .i64 r.code, .bool r.t.neg, .slice A_r1 n_r1 c_r1, .int .i64 r.t.e, .bool r.h.neg, .slice A_r2 n_r2 c_r2, .int .i64 r.h.e, .slice X_r r.boxes.length x_r, .slice Y_r r.sigs.length y_r], .agg #[.int .i64 r.kind, .int .i64 r.epoch, .int .i64 r.code, .bool r.t.neg, .slice A_r1 n_r1 c_r1, .int .i64 r.t.e, .bool r.h.neg, .slice A_r2 n_r2 c_r2, .int .i64 r.h.e, .slice X_r r.boxes.length x_r, .slice Y_r r.sigs.length y_r]] (by kernel_rfl) fun w12 h12 => ?_
          refine (sameR_any _ _ r r _ (mkRc (r := r) (h12.rdD r_r1) (h12.rdD r_r2) ((F_r3.mv h12.mv).any) ((F_r4.mv h12.mv).any)) (mkRc (r := r) (h12.rdD r_r1) (h12.rdD r_r2) ((F_r3.mv h12.mv).any) ((F_r4.mv h12.mv).any))).mono ?_
          rw [sameRc_self]
          rintro e v12 ⟨rfl, hb12⟩
          refine ⟨hb12, [.bool true], _, rfl, by kernel_rfl, by kernel_rfl, fun g12 => ?_⟩
          replace r_r1 := g12.rdD r_r1; replace r_r2 := g12.rdD r_r2; replace F_r3 := F_r3.mv g12.mv; replace F_r4 := F_r4.mv g12.mv; replace r_s1 := g12.rdD r_s1; replace r_s2 := g12.rdD r_s2; replace F_s3 := F_s3.mv g12.mv; replace F_s4 := F_s4.mv g12.mv; replace R_b := g12.rd (by decide) R_b; replace FP := FP.mv g12.mv; replace r_y1 := g12.rdD r_y1; replace r_y2 := g12.rdD r_y2; replace F_y3 := F_y3.mv g12.mv; replace F_y4 := F_y4.mv g12.mv; replace r_z1 := g12.rdD r_z1; replace r_z2 := g12.rdD r_z2; replace F_z3 := F_z3.mv g12.mv; replace F_z4 := F_z4.mv g12.mv
          clear h12 hb12
          exact sat_ret (.bool true) (by kernel_rfl) fun w9 h9 => rfl
        · refine sat_call #[.agg #[.int .i64 r.kind, .int .i64 r.epoch, .int .i64 r.code, .bool r.t.neg, .slice A_r1 n_r1 c_r1, .int .i64 r.t.e, .bool r.h.neg, .slice A_r2 n_r2 c_r2, .int .i64 r.h.e, .slice X_r r.boxes.length x_r, .slice Y_r r.sigs.length y_r]] (by kernel_rfl) fun w3 h3 => ?_
          refine (rmayRc_any _ r _ (mkRc (r := r) (h3.rdD r_r1) (h3.rdD r_r2) ((F_r3.mv h3.mv).any) ((F_r4.mv h3.mv).any))).mono ?_
          rw [hm]
          rintro e v3 ⟨rfl, hb3⟩
          refine ⟨hb3, [.bool true], _, rfl, by kernel_rfl, by kernel_rfl, fun g3 => ?_⟩
          replace r_r1 := g3.rdD r_r1; replace r_r2 := g3.rdD r_r2; replace F_r3 := F_r3.mv g3.mv; replace F_r4 := F_r4.mv g3.mv; replace r_s1 := g3.rdD r_s1; replace r_s2 := g3.rdD r_s2; replace F_s3 := F_s3.mv g3.mv; replace F_s4 := F_s4.mv g3.mv; replace R_b := g3.rd (by decide) R_b
          clear h3 hb3
          refine sat_call #[.agg #[.int .i64 r.kind, .int .i64 r.epoch, .int .i64 r.code, .bool r.t.neg, .slice A_r1 n_r1 c_r1, .int .i64 r.t.e, .bool r.h.neg, .slice A_r2 n_r2 c_r2, .int .i64 r.h.e, .slice X_r r.boxes.length x_r, .slice Y_r r.sigs.length y_r]] (by kernel_rfl) fun w4 h4 => ?_
          refine (putR_any _ r _ (mkRc (r := r) (h4.rdD r_r1) (h4.rdD r_r2) ((F_r3.mv h4.mv).any) ((F_r4.mv h4.mv).any))).mono ?_
          rintro e v4 ⟨⟨A_p, c_p, rfl, FP⟩, hb4⟩
          rw [putB_yes hm] at FP
          rw [putB_yes hm, putE_yes hm]
          refine ⟨hb4, [.slice A_p (recB r).length c_p, .int .i64 0], _, rfl, by kernel_rfl, by kernel_rfl, fun g4 => ?_⟩
          replace r_r1 := g4.rdD r_r1; replace r_r2 := g4.rdD r_r2; replace F_r3 := F_r3.mv g4.mv; replace F_r4 := F_r4.mv g4.mv; replace r_s1 := g4.rdD r_s1; replace r_s2 := g4.rdD r_s2; replace F_s3 := F_s3.mv g4.mv; replace F_s4 := F_s4.mv g4.mv; replace R_b := g4.rd (by decide) R_b
          replace FP := FP.mv (Sx.Mv.fresh h4.wf)
          clear h4 hb4
          refine sat_call #[.agg #[.int .i64 r.kind, .int .i64 r.epoch, .int .i64 r.code, .bool r.t.neg, .slice A_r1 n_r1 c_r1, .int .i64 r.t.e, .bool r.h.neg, .slice A_r2 n_r2 c_r2, .int .i64 r.h.e, .slice X_r r.boxes.length x_r, .slice Y_r r.sigs.length y_r]] (by kernel_rfl) fun w5 h5 => ?_
          refine (mayRc_any _ r _ (mkRc (r := r) (h5.rdD r_r1) (h5.rdD r_r2) ((F_r3.mv h5.mv).any) ((F_r4.mv h5.mv).any))).mono ?_
          rw [hm]
          rintro e v5 ⟨rfl, hb5⟩
          refine ⟨hb5, [.bool true], _, rfl, by kernel_rfl, by kernel_rfl, fun g5 => ?_⟩
          replace r_r1 := g5.rdD r_r1; replace r_r2 := g5.rdD r_r2; replace F_r3 := F_r3.mv g5.mv; replace F_r4 := F_r4.mv g5.mv; replace r_s1 := g5.rdD r_s1; replace r_s2 := g5.rdD r_s2; replace F_s3 := F_s3.mv g5.mv; replace F_s4 := F_s4.mv g5.mv; replace R_b := g5.rd (by decide) R_b; replace FP := FP.mv g5.mv
          clear h5 hb5
          refine sat_prim (v := .bool false) (by kernel_rfl) ?_
          refine sat_false (by kernel_rfl) ?_
          refine sat_prim (v := .bool true) (by kernel_rfl) ?_
          refine sat_prim (v := .bool false) (by kernel_rfl) ?_
          refine sat_false (by kernel_rfl) ?_
          refine sat_prim (v := .bool false) (by kernel_rfl) ?_
          refine sat_false (by kernel_rfl) ?_
          refine sat_true (by kernel_rfl) ?_
          refine ⟨.string (Sx.strB (recB r)), fun w9 h9 => ?_, ?_⟩
          · exact Sx.conv_rdn Try.underlying29 Try.underlying5 Try.underlying9 (FP.mv h9.mv).rdn
          refine Sx.sat_fread (recB r) #[.agg #[.int .i64 r.kind, .int .i64 r.epoch, .int .i64 r.code, .bool r.t.neg, .slice A_r1 n_r1 c_r1, .int .i64 r.t.e, .bool r.h.neg, .slice A_r2 n_r2 c_r2, .int .i64 r.h.e, .slice X_r r.boxes.length x_r, .slice Y_r r.sigs.length y_r]] (by kernel_rfl) (fun w6 h6 => fput_any _ r _ (mkRc (r := r) (h6.rdD r_r1) (h6.rdD r_r2) ((F_r3.mv h6.mv).any) ((F_r4.mv h6.mv).any)) hm) fun A_q c_q w6 g6 FQ => ?_
          replace r_r1 := g6.rdD r_r1; replace r_r2 := g6.rdD r_r2; replace F_r3 := F_r3.mv g6.mv; replace F_r4 := F_r4.mv g6.mv; replace r_s1 := g6.rdD r_s1; replace r_s2 := g6.rdD r_s2; replace F_s3 := F_s3.mv g6.mv; replace F_s4 := F_s4.mv g6.mv; replace R_b := g6.rd (by decide) R_b; replace FP := FP.mv g6.mv
          clear g6
          refine ⟨.string (Sx.strB (recB r)), fun w9 h9 => ?_, ?_⟩
          · exact Sx.conv_rdn Try.underlying29 Try.underlying5 Try.underlying9 (FQ.mv h9.mv).rdn
          refine sat_prim (v := .bool false) (Eq.trans (b := some (Value.bool (((Sx.strB (recB r)).toList == (Sx.strB (recB r)).toList) != true))) (by kernel_rfl) (by rw [beq_self_eq_true]; rfl)) ?_
          refine sat_false (by kernel_rfl) ?_
          refine sat_call #[.slice A_b b.length c_b] (by kernel_rfl) fun w7 h7 => ?_
          refine (getR_any A_b c_b b _ (h7.rd (by decide) R_b) hl).mono ?_
          rintro e v7 ⟨⟨_, rfl, hA⟩, hb7⟩
          generalize hQ : getS b = Q at *
          obtain ⟨A_y1, n_y1, c_y1, A_y2, n_y2, c_y2, X_y, x_y, Y_y, y_y, rfl, r_y1, r_y2, F_y3, F_y4⟩ := hA
          refine ⟨hb7, [.int .i64 Q.1.kind, .int .i64 Q.1.epoch, .int .i64 Q.1.code, .bool Q.1.t.neg, .slice A_y1 n_y1 c_y1, .int .i64 Q.1.t.e, .bool Q.1.h.neg, .slice A_y2 n_y2 c_y2, .int .i64 Q.1.h.e, .slice X_y Q.1.boxes.length x_y, .slice Y_y Q.1.sigs.length y_y, .int .i64 Q.2], _, rfl, by kernel_rfl, by kernel_rfl, fun g7 => ?_⟩
          replace r_r1 := g7.rdD r_r1; replace r_r2 := g7.rdD r_r2; replace F_r3 := F_r3.mv g7.mv; replace F_r4 := F_r4.mv g7.mv; replace r_s1 := g7.rdD r_s1; replace r_s2 := g7.rdD r_s2; replace F_s3 := F_s3.mv g7.mv; replace F_s4 := F_s4.mv g7.mv; replace R_b := g7.rd (by decide) R_b; replace FP := FP.mv g7.mv; replace FQ := FQ.mv g7.mv
          replace F_y3 := F_y3.mv (Sx.Mv.fresh h7.wf)
          replace F_y4 := F_y4.mv (Sx.Mv.fresh h7.wf)
          clear h7 hb7
          refine sat_chkB (by kernel_rfl) ?_
          refine sat_call #[.slice A_b b.length c_b] (by kernel_rfl) fun w8 h8 => ?_
          refine (getQ_any A_b c_b b _ (h8.rd (by decide) R_b) hl).mono ?_
          rintro e v8 ⟨⟨_, rfl, hA⟩, hb8⟩
          rw [getS_getQ hl, hQ] at hA
          rw [getS_getQ hl, hQ]
          obtain ⟨A_z1, n_z1, c_z1, A_z2, n_z2, c_z2, X_z, x_z, Y_z, y_z, rfl, r_z1, r_z2, F_z3, F_z4⟩ := hA
          refine ⟨hb8, [.int .i64 Q.1.kind, .int .i64 Q.1.epoch, .int .i64 Q.1.code, .bool Q.1.t.neg, .slice A_z1 n_z1 c_z1, .int .i64 Q.1.t.e, .bool Q.1.h.neg, .slice A_z2 n_z2 c_z2, .int .i64 Q.1.h.e, .slice X_z Q.1.boxes.length x_z, .slice Y_z Q.1.sigs.length y_z, .int .i64 Q.2], _, rfl, by kernel_rfl, by kernel_rfl, fun g8 => ?_⟩
          replace r_r1 := g8.rdD r_r1; replace r_r2 := g8.rdD r_r2; replace F_r3 := F_r3.mv g8.mv; replace F_r4 := F_r4.mv g8.mv; replace r_s1 := g8.rdD r_s1; replace r_s2 := g8.rdD r_s2; replace F_s3 := F_s3.mv g8.mv; replace F_s4 := F_s4.mv g8.mv; replace R_b := g8.rd (by decide) R_b; replace FP := FP.mv g8.mv; replace FQ := FQ.mv g8.mv; replace r_y1 := g8.rdD r_y1; replace r_y2 := g8.rdD r_y2; replace F_y3 := F_y3.mv g8.mv; replace F_y4 := F_y4.mv g8.mv
          replace F_z3 := F_z3.mv (Sx.Mv.fresh h8.wf)
          replace F_z4 := F_z4.mv (Sx.Mv.fresh h8.wf)
          clear h8 hb8
          refine sat_chkB (by kernel_rfl) ?_
          refine sat_call #[] (by kernel_rfl) fun w9 h9 => ?_
          refine (told21_any _).mono ?_
          rintro e v9 ⟨rfl, hb9⟩
          refine ⟨hb9, [.bool true], _, rfl, by kernel_rfl, by kernel_rfl, fun g9 => ?_⟩
          replace r_r1 := g9.rdD r_r1; replace r_r2 := g9.rdD r_r2; replace F_r3 := F_r3.mv g9.mv; replace F_r4 := F_r4.mv g9.mv; replace r_s1 := g9.rdD r_s1; replace r_s2 := g9.rdD r_s2; replace F_s3 := F_s3.mv g9.mv; replace F_s4 := F_s4.mv g9.mv; replace R_b := g9.rd (by decide) R_b; replace FP := FP.mv g9.mv; replace FQ := FQ.mv g9.mv; replace r_y1 := g9.rdD r_y1; replace r_y2 := g9.rdD r_y2; replace F_y3 := F_y3.mv g9.mv; replace F_y4 := F_y4.mv g9.mv; replace r_z1 := g9.rdD r_z1; replace r_z2 := g9.rdD r_z2; replace F_z3 := F_z3.mv g9.mv; replace F_z4 := F_z4.mv g9.mv
          clear h9 hb9
          refine sat_true (by kernel_rfl) ?_
          refine sat_prim (v := .bool true) (Eq.trans (b := some (Value.bool (Q.2 == Q.2))) (by kernel_rfl) (by rw [beq_self_eq_true])) ?_
          refine sat_true (by kernel_rfl) ?_
          refine sat_call #[.agg #[.int .i64 Q.1.kind, .int .i64 Q.1.epoch, .int .i64 Q.1.code, .bool Q.1.t.neg, .slice A_y1 n_y1 c_y1, .int .i64 Q.1.t.e, .bool Q.1.h.neg, .slice A_y2 n_y2 c_y2, .int .i64 Q.1.h.e, .slice X_y Q.1.boxes.length x_y, .slice Y_y Q.1.sigs.length y_y], .agg #[.int .i64 Q.1.kind, .int .i64 Q.1.epoch, .int .i64 Q.1.code, .bool Q.1.t.neg, .slice A_z1 n_z1 c_z1, .int .i64 Q.1.t.e, .bool Q.1.h.neg, .slice A_z2 n_z2 c_z2, .int .i64 Q.1.h.e, .slice X_z Q.1.boxes.length x_z, .slice Y_z Q.1.sigs.length y_z]] (by kernel_rfl) fun w10 h10 => ?_
          refine (rsameR_any _ _ Q.1 Q.1 _ (mkRc (r := Q.1) (h10.rdD r_y1) (h10.rdD r_y2) ((F_y3.mv h10.mv).any) ((F_y4.mv h10.mv).any)) (mkRc (r := Q.1) (h10.rdD r_z1) (h10.rdD r_z2) ((F_z3.mv h10.mv).any) ((F_z4.mv h10.mv).any))).mono ?_
          rw [sameRc_self]
          rintro e v10 ⟨rfl, hb10⟩
          refine ⟨hb10, [.bool true], _, rfl, by kernel_rfl, by kernel_rfl, fun g10 => ?_⟩
          replace r_r1 := g10.rdD r_r1; replace r_r2 := g10.rdD r_r2; replace F_r3 := F_r3.mv g10.mv; replace F_r4 := F_r4.mv g10.mv; replace r_s1 := g10.rdD r_s1; replace r_s2 := g10.rdD r_s2; replace F_s3 := F_s3.mv g10.mv; replace F_s4 := F_s4.mv g10.mv; replace R_b := g10.rd (by decide) R_b; replace FP := FP.mv g10.mv; replace FQ := FQ.mv g10.mv; replace r_y1 := g10.rdD r_y1; replace r_y2 := g10.rdD r_y2; replace F_y3 := F_y3.mv g10.mv; replace F_y4 := F_y4.mv g10.mv; replace r_z1 := g10.rdD r_z1; replace r_z2 := g10.rdD r_z2; replace F_z3 := F_z3.mv g10.mv; replace F_z4 := F_z4.mv g10.mv
          clear h10 hb10
          refine sat_true (by kernel_rfl) ?_
          refine sat_call #[.agg #[.int .i64 r.kind, .int .i64 r.epoch, .int .i64 r.code, .bool r.t.neg, .slice A_r1 n_r1 c_r1, .int .i64 r.t.e, .bool r.h.neg, .slice A_r2 n_r2 c_r2, .int .i64 r.h.e, .slice X_r r.boxes.length x_r, .slice Y_r r.sigs.length y_r], .agg #[.int .i64 s.kind, .int .i64 s.epoch, .int .i64 s.code, .bool s.t.neg, .slice A_s1 n_s1 c_s1, .int .i64 s.t.e, .bool s.h.neg, .slice A_s2 n_s2 c_s2, .int .i64 s.h.e, .slice X_s s.boxes.length x_s, .slice Y_s s.sigs.length y_s]] (by kernel_rfl) fun w11 h11 => ?_
          refine (sameR_any _ _ r s _ (mkRc (r := r) (h11.rdD r_r1) (h11.rdD r_r2) ((F_r3.mv h11.mv).any) ((F_r4.mv h11.mv).any)) (mkRc (r := s) (h11.rdD r_s1) (h11.rdD r_s2) ((F_s3.mv h11.mv).any) ((F_s4.mv h11.mv).any))).mono ?_
          rintro e v11 ⟨rfl, hb11⟩
          refine ⟨hb11, [.bool (sameRc r s)], _, rfl, by kernel_rfl, by kernel_rfl, fun g11 => ?_⟩
          replace r_r1 := g11.rdD r_r1; replace r_r2 := g11.rdD r_r2; replace F_r3 := F_r3.mv g11.mv; replace F_r4 := F_r4.mv g11.mv; replace r_s1 := g11.rdD r_s1; replace r_s2 := g11.rdD r_s2; replace F_s3 := F_s3.mv g11.mv; replace F_s4 := F_s4.mv g11.mv; replace R_b := g11.rd (by decide) R_b; replace FP := FP.mv g11.mv; replace FQ := FQ.mv g11.mv; replace r_y1 := g11.rdD r_y1; replace r_y2 := g11.rdD r_y2; replace F_y3 := F_y3.mv g11.mv; replace F_y4 := F_y4.mv g11.mv; replace r_z1 := g11.rdD r_z1; replace r_z2 := g11.rdD r_z2; replace F_z3 := F_z3.mv g11.mv; replace F_z4 := F_z4.mv g11.mv
          clear h11 hb11
          refine sat_call #[.agg #[.int .i64 r.kind, .int .i64 r.epoch, .int .i64 r.code, .bool r.t.neg, .slice A_r1 n_r1 c_r1, .int .i64 r.t.e, .bool r.h.neg, .slice A_r2 n_r2 c_r2, .int .i64 r.h.e, .slice X_r r.boxes.length x_r, .slice Y_r r.sigs.length y_r], .agg #[.int .i64 s.kind, .int .i64 s.epoch, .int .i64 s.code, .bool s.t.neg, .slice A_s1 n_s1 c_s1, .int .i64 s.t.e, .bool s.h.neg, .slice A_s2 n_s2 c_s2, .int .i64 s.h.e, .slice X_s s.boxes.length x_s, .slice Y_s s.sigs.length y_s]] (by kernel_rfl) fun w12 h12 => ?_
          refine (rsameR_any _ _ r s _ (mkRc (r := r) (h12.rdD r_r1) (h12.rdD r_r2) ((F_r3.mv h12.mv).any) ((F_r4.mv h12.mv).any)) (mkRc (r := s) (h12.rdD r_s1) (h12.rdD r_s2) ((F_s3.mv h12.mv).any) ((F_s4.mv h12.mv).any))).mono ?_
          rintro e v12 ⟨rfl, hb12⟩
          refine ⟨hb12, [.bool (sameRc r s)], _, rfl, by kernel_rfl, by kernel_rfl, fun g12 => ?_⟩
          replace r_r1 := g12.rdD r_r1; replace r_r2 := g12.rdD r_r2; replace F_r3 := F_r3.mv g12.mv; replace F_r4 := F_r4.mv g12.mv; replace r_s1 := g12.rdD r_s1; replace r_s2 := g12.rdD r_s2; replace F_s3 := F_s3.mv g12.mv; replace F_s4 := F_s4.mv g12.mv; replace R_b := g12.rd (by decide) R_b; replace FP := FP.mv g12.mv; replace FQ := FQ.mv g12.mv; replace r_y1 := g12.rdD r_y1; replace r_y2 := g12.rdD r_y2; replace F_y3 := F_y3.mv g12.mv; replace F_y4 := F_y4.mv g12.mv; replace r_z1 := g12.rdD r_z1; replace r_z2 := g12.rdD r_z2; replace F_z3 := F_z3.mv g12.mv; replace F_z4 := F_z4.mv g12.mv
          clear h12 hb12
          refine sat_prim (v := .bool true) (Eq.trans (b := some (Value.bool ((sameRc r s) == (sameRc r s)))) (by kernel_rfl) (by rw [beq_self_eq_true])) ?_
          refine sat_true (by kernel_rfl) ?_
          refine sat_call #[.agg #[.int .i64 r.kind, .int .i64 r.epoch, .int .i64 r.code, .bool r.t.neg, .slice A_r1 n_r1 c_r1, .int .i64 r.t.e, .bool r.h.neg, .slice A_r2 n_r2 c_r2, .int .i64 r.h.e, .slice X_r r.boxes.length x_r, .slice Y_r r.sigs.length y_r], .agg #[.int .i64 r.kind, .int .i64 r.epoch, .int .i64 r.code, .bool r.t.neg, .slice A_r1 n_r1 c_r1, .int .i64 r.t.e, .bool r.h.neg, .slice A_r2 n_r2 c_r2, .int .i64 r.h.e, .slice X_r r.boxes.length x_r, .slice Y_r r.sigs.length y_r]] (by kernel_rfl) fun w13 h13 => ?_
          refine (sameR_any _ _ r r _ (mkRc (r := r) (h13.rdD r_r1) (h13.rdD r_r2) ((F_r3.mv h13.mv).any) ((F_r4.mv h13.mv).any)) (mkRc (r := r) (h13.rdD r_r1) (h13.rdD r_r2) ((F_r3.mv h13.mv).any) ((F_r4.mv h13.mv).any))).mono ?_
          rw [sameRc_self]
          rintro e v13 ⟨rfl, hb13⟩
          refine ⟨hb13, [.bool true], _, rfl, by kernel_rfl, by kernel_rfl, fun g13 => ?_⟩
          replace r_r1 := g13.rdD r_r1; replace r_r2 := g13.rdD r_r2; replace F_r3 := F_r3.mv g13.mv; replace F_r4 := F_r4.mv g13.mv; replace r_s1 := g13.rdD r_s1; replace r_s2 := g13.rdD r_s2; replace F_s3 := F_s3.mv g13.mv; replace F_s4 := F_s4.mv g13.mv; replace R_b := g13.rd (by decide) R_b; replace FP := FP.mv g13.mv; replace FQ := FQ.mv g13.mv; replace r_y1 := g13.rdD r_y1; replace r_y2 := g13.rdD r_y2; replace F_y3 := F_y3.mv g13.mv; replace F_y4 := F_y4.mv g13.mv; replace r_z1 := g13.rdD r_z1; replace r_z2 := g13.rdD r_z2; replace F_z3 := F_z3.mv g13.mv; replace F_z4 := F_z4.mv g13.mv
          clear h13 hb13
          exact sat_ret (.bool true) (by kernel_rfl) fun w9 h9 => rfl
      · refine sat_true (by kernel_rfl) ?_
        refine sat_call #[] (by kernel_rfl) fun w3 h3 => ?_
        refine (told21_any _).mono ?_
        rintro e v3 ⟨rfl, hb3⟩
        refine ⟨hb3, [.bool true], _, rfl, by kernel_rfl, by kernel_rfl, fun g3 => ?_⟩
        replace r_r1 := g3.rdD r_r1; replace r_r2 := g3.rdD r_r2; replace F_r3 := F_r3.mv g3.mv; replace F_r4 := F_r4.mv g3.mv; replace r_s1 := g3.rdD r_s1; replace r_s2 := g3.rdD r_s2; replace F_s3 := F_s3.mv g3.mv; replace F_s4 := F_s4.mv g3.mv; replace R_b := g3.rd (by decide) R_b
        clear h3 hb3
        exact sat_ret (.bool true) (by kernel_rfl) fun w9 h9 => rfl
end Go.Proofs.Ytpkfjfpknbhekaa
