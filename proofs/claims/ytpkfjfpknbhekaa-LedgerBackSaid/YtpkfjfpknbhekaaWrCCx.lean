/- Bytes of a row that a call builds: read, put anew, made a string. -/
import Derived.Test.YtpkfjfpknbhekaaWrBBx
import Derived.Test.YtpkfjfpknbhekaaWrRx
import Derived.Test.YtpkfjfpknbhekaaWrLx
import Derived.Laws.BytesArg
namespace Go.Proofs.Ytpkfjfpknbhekaa
open Go.RowKit Pl
namespace Sx
/-- The block of a row of bytes that is built. -/
theorem Gr.blkB {w0 : Fr} {e : TypeId} {w : OW} {A : Option Addr} {n c : Nat} {l : List Nat} (h : Gr kB w0 e w (.slice A n c) l) (hn : 0 < l.length) :
    ∃ (g : Nat) (cur : Array Value), A = some ⟨g, 0, none⟩ ∧ g ∈ w.bld ∧ w.heap[g]? = some (.cells cur e (0, 0)) ∧ n = l.length ∧ n ≤ c ∧ c ≤ maxLen ∧ cur.size = c * 1 ∧ w0.lo ≤ g ∧ (∀ u ∈ cur.toList, LeafN w0 u) ∧ ∀ (i x : Nat), l[i]? = some x → cur.toList[i]? = some (.int .u8 (x : Int)) := by
  obtain ⟨_, xs, i1, i2⟩ := h
  rcases i1.row.2 with ⟨hv, h0⟩ | ⟨g, cap, cur, hv, hb, hg, hcap, hmax, hcs, htake⟩
  · omega
  · injection hv with v1 v2 v3
    subst v1 v2 v3
    refine ⟨g, cur, rfl, i1.blk g rfl, hg, rfl, hcap, hmax, hcs, hb, fun u hu => i1.ok g cur e _ rfl hg u hu, fun i x hx => ?_⟩
    have hE : (xs.drop (i * 1)).take 1 = [.int .u8 (x : Int)] := i2 i x hx
    have hi : i < l.length := (List.getElem?_eq_some_iff.1 hx).1
    rw [← htake, Nat.mul_one] at hE
    have h1 := congrArg (fun q => q[0]?) hE
    simp only [List.getElem?_cons_zero] at h1
    rw [List.getElem?_take, if_pos (by omega), List.getElem?_drop, List.getElem?_take] at h1
    split at h1
    · simpa using h1
    · cases h1
section
variable {w0 : Fr} {w w' : OW} {R : Value → World → Prop} {Pn : List PanicEntry → World → Prop} {Bk : Back} {ρ : List Value} {t t' : Tree}
/-- A byte of a row that is built. -/
theorem sat_getB {ty : TypeId} {s ix : At} {kk : IntKind} {j n c : Nat} {A : Option Addr} {l : List Nat} {e : TypeId} (k : Nat) (G : Gr kB w0 e w (.slice A n c) l) (hj : j = ρ.length) (hs : s.den ρ [] = .slice A n c) (hi : ix.den ρ [] = .int kk (k : Int)) (hlt : k < l.length) (h2 : rowB Try.prog ty = some false)
    (h : ∀ r, satB Try.prog w0 R Pn Bk t (ρ ++ [r] ++ [.int .u8 ((nth l k : Nat) : Int)]) w) : satB Try.prog w0 R Pn Bk (.prim (.idx 1) [s, ix] (.loadm ty (.lf j) .one t)) ρ w := by
  subst hj
  obtain ⟨g, cur, rfl, hgb, hg, rfl, _, _, _, _, _, hc⟩ := G.blkB (by omega)
  refine ⟨.pointer (some ⟨g, 0 + k * 1, none⟩), ?_, fun w' hl => ?_⟩
  · simp only [denL, List.map_cons, List.map_nil, hs, hi, Prim.ev]
    rw [if_pos ⟨by omega, by omega⟩]
    simp
  · obtain ⟨x, hx⟩ : ∃ x, l[k]? = some x := ⟨_, List.getElem?_eq_getElem hlt⟩
    have hx2 : nth l k = x := by unfold nth; rw [List.getD_eq_getElem?_getD, hx]; rfl
    have hc1 : w'.toWorld.cell? ⟨g, 0 + k * 1, none⟩ = some (.int .u8 ((nth l k : Nat) : Int)) := by
      rw [cell_of_row w'.toWorld g _ cur e (0, 0) (by rw [hl.keepB g hgb]; exact hg), hx2, Nat.zero_add, Nat.mul_one, ← Array.getElem?_toList]
      exact hc k x hx
    exact ⟨[.int .u8 ((nth l k : Nat) : Int)], ⟨g, 0 + k * 1, none⟩, rfl, by simp [At.den], load_one h2 hc1, sat_mono Try.prog (h _) hl⟩
/-- A byte of a row that is built is put anew. -/
theorem sat_setB {ty : TypeId} {s ix y : At} {kk : IntKind} {j n c : Nat} {A : Option Addr} {l : List Nat} {e : TypeId} (k x : Nat) (G : Gr kB w0 e w (.slice A n c) l) (hj : j = ρ.length) (hs : s.den ρ [] = .slice A n c) (hi : ix.den ρ [] = .int kk (k : Int)) (hlt : k < l.length) (hty : szOf Try.prog ty = some 1)
    (hy : ∀ r, y.den (ρ ++ [r]) [] = .int .u8 (x : Int))
    (h : ∀ r ow, Lf w0 w ow → Gr kB w0 e ow (.slice A n c) (l.set k x) → satB Try.prog w0 R Pn Bk t (ρ ++ [r]) ow) : satB Try.prog w0 R Pn Bk (.prim (.idx 1) [s, ix] (.fst ty (.lf j) (.one y) t)) ρ w := by
  subst hj
  obtain ⟨g, cur, rfl, hgb, hg, rfl, hcap, hmax, hcs, hlo, hok, hc⟩ := G.blkB (by omega)
  have hp := G.pos
  refine ⟨.pointer (some ⟨g, 0 + k * 1, none⟩), ?_, ⟨g, 0 + k * 1, none⟩, by simp [At.den], fun w' hl => ?_⟩
  · simp only [denL, List.map_cons, List.map_nil, hs, hi, Prim.ev]
    rw [if_pos ⟨by omega, by omega⟩]
    simp
  · have hB : Box w'.toWorld g cur.toList e := by
      unfold Box
      rw [hl.keepB g hgb]
      simpa using hg
    have hlen : cur.toList.length = c := by rw [Array.length_toList, hcs, Nat.mul_one]
    have hst := store_ok (P := Try.prog) (off := 0 + k * 1) (us := [Value.int .u8 (x : Int)]) (v := .int .u8 (x : Int)) hty hB (by rfl) rfl (by omega) (by simp [Value.oneCell'])
    have hE := Eff.setRow hl.wf hl.b hB hok (hl.bld g hgb) (cur.toList.take (0 + k * 1) ++ [Value.int .u8 (x : Int)] ++ cur.toList.drop (0 + k * 1 + 1)).toArray
    refine ⟨⟨w'.setRow g (cur.toList.take (0 + k * 1) ++ [Value.int .u8 (x : Int)] ++ cur.toList.drop (0 + k * 1 + 1)).toArray, w'.own, w'.bld⟩, ?_, hE, ?_⟩
    · have hd2 : ((Tm.one y).den (ρ ++ [Value.pointer (some ⟨g, 0 + k * 1, none⟩)]) []) = .int .u8 (x : Int) := hy _
      rw [hd2]
      simpa using hst
    · refine h _ _ (hl.toLf.trans hE.toLf) ?_
      have hset : cur.toList.take (0 + k * 1) ++ [Value.int .u8 (x : Int)] ++ cur.toList.drop (0 + k * 1 + 1) = cur.toList.set k (Value.int .u8 (x : Int)) := by
        rw [Nat.zero_add, Nat.mul_one, List.set_eq_take_append_cons_drop, if_pos (by omega)]
        simp
      rw [hset]
      have hH := setRow_heap w'.toWorld g cur (cur.toList.set k (Value.int .u8 (x : Int))).toArray e (0, 0) (by rw [hl.keepB g hgb]; exact hg)
      have hrow : ((cur.toList.set k (Value.int .u8 (x : Int))).take (l.length * 1)).length = l.length * 1 := by
        rw [List.length_take, List.length_set]; omega
      refine ⟨hp, (cur.toList.set k (Value.int .u8 (x : Int))).take (l.length * 1), ⟨⟨?_, .inr ⟨g, c, _, ?_, hlo, hH, ?_, hmax, ?_, ?_⟩⟩, fun g' hg' => ?_, fun g' cur' t' q hg' hc' u hu => ?_⟩, fun i z hz => ?_⟩
      · rw [List.length_set]; exact hrow
      · rw [List.length_set]
      · rw [List.length_set]; exact hcap
      · simp only [List.size_toArray, List.length_set]; rw [hlen]; exact (Nat.mul_one c).symm
      · rw [List.length_set]; rfl
      · simp only [Value.ownBlock, Option.some.injEq] at hg'
        subst hg'
        exact hl.bld g hgb
      · simp only [Value.ownBlock, Option.some.injEq] at hg'
        subst hg'
        have h3 := hH.symm.trans hc'
        injection h3 with h3
        injection h3 with h3
        subst h3
        rcases List.mem_or_eq_of_mem_set hu with hu | rfl
        · exact hok u hu
        · exact ⟨rfl, fun K m em => by cases em; exact hp.2.1⟩
      · show (((cur.toList.set k (Value.int .u8 (x : Int))).take (l.length * 1)).drop (i * 1)).take 1 = [.int .u8 (z : Int)]
        have hi2 : i < l.length := by have := (List.getElem?_eq_some_iff.1 hz).1; rwa [List.length_set] at this
        have hgi : (cur.toList.set k (Value.int .u8 (x : Int)))[i]? = some (.int .u8 (z : Int)) := by
          rw [List.getElem?_set] at hz ⊢
          by_cases hki : k = i
          · rw [if_pos hki] at hz
            rw [if_pos hki]
            rw [if_pos hlt] at hz
            rw [if_pos (by omega), Option.some.inj hz]
          · rw [if_neg hki] at hz
            rw [if_neg hki]
            exact hc i z hz
        rw [Nat.mul_one, Nat.mul_one, List.drop_take]
        rw [List.take_take, Nat.min_eq_left (by omega)]
        obtain ⟨hlt2, hval⟩ := List.getElem?_eq_some_iff.1 hgi
        rw [List.drop_eq_getElem_cons hlt2, hval]
        rfl
/-- A row of bytes is made a string. -/
def strB (l : List Nat) : ByteArray := strOfNums (l.map fun x : Nat => (x : Int))
theorem strB_nil : strB [] = ByteArray.empty := by kernel_rfl
theorem conv_rdn {src dst e : TypeId} (hs : Try.prog.underlying src = some (.slice e)) (he : Try.prog.underlying e = some (.int .u8)) (hd : Try.prog.underlying dst = some .string) {W : World} {A : Option Addr} {n c : Nat} {l : List Nat} (h : RdN .u8 W A n c l) : (convert src dst (.slice A n c)).run Try.prog W = .ok (.string (strB l)) W := by
  have hl := h.len
  rcases Nat.eq_zero_or_pos n with h0 | hn
  · subst h0
    obtain rfl : l = [] := List.eq_nil_of_length_eq_zero hl
    cases A with
    | none =>
      rw [run_convert_bytes_nil W src e hs he 0 c dst hd, strB_nil]
    | some ad =>
      rw [run_convert_bytes_string W src dst e _ 0 c hs he hd, run_bytesToString W ad 0 c [] (by simp [loadCells, loadCellsFrom]), strB_nil]
      rfl
  · obtain ⟨b, off, rfl, _, hc⟩ := h.at_ hn
    refine run_convert_bytes_arg W src e hs he b off n c (l.map fun x : Nat => (x : Int)) (by simpa using hl) (fun i hi => ?_) dst hd
    rw [hc i hi]
    unfold nth
    simp [List.getD_eq_getElem?_getD, show i < l.length by omega]
/-- Bytes that nobody writes, as a string. -/
theorem sat_convR {src dst e : TypeId} {x : At} {A : Option Addr} {n c : Nat} {l : List Nat} (F : Rows kB (NB w) w.toWorld A n c l) (hx : x.den ρ [] = .slice A n c) (hs : Try.prog.underlying src = some (.slice e)) (he : Try.prog.underlying e = some (.int .u8)) (hd : Try.prog.underlying dst = some .string)
    (hk : w0.nk .u64 = false) (h : satB Try.prog w0 R Pn Bk t (ρ ++ [.string (strB l)]) w) : satB Try.prog w0 R Pn Bk (.convm src dst x t) ρ w := fun w' hl =>
  ⟨_, by rw [hx]; exact conv_rdn hs he hd (F.mv (hl.toLf.mv hk)).rdn, sat_mono Try.prog h hl⟩
/-- A row that is built, as a string. -/
theorem sat_convG {src dst e e' : TypeId} {x : At} {A : Option Addr} {n c : Nat} {l : List Nat} (G : Gr kB w0 e' w (.slice A n c) l) (hx : x.den ρ [] = .slice A n c) (hs : Try.prog.underlying src = some (.slice e)) (he : Try.prog.underlying e = some (.int .u8)) (hd : Try.prog.underlying dst = some .string)
    (h : satB Try.prog w0 R Pn Bk t (ρ ++ [.string (strB l)]) w) : satB Try.prog w0 R Pn Bk (.convm src dst x t) ρ w := fun w' hl =>
  ⟨_, by rw [hx]; exact conv_rdn hs he hd (G.le hl).reads.rdn, sat_mono Try.prog h hl⟩
end
end Sx
end Go.Proofs.Ytpkfjfpknbhekaa
