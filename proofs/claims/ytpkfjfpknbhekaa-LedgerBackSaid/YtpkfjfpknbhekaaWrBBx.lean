/- Rows of bytes that a call builds. -/
import Derived.Test.YtpkfjfpknbhekaaWrLx
import Derived.Test.YtpkfjfpknbhekaaWrCx
namespace Go.Proofs.Ytpkfjfpknbhekaa
open Go.RowKit Pl
namespace Sx
/-- A byte is appended to a row that the call builds. -/
theorem sat_pushB {w0 : Fr} {w : OW} {R : Value → World → Prop} {Pn : List PanicEntry → World → Prop} {Bk : Back} {ρ : List Value} {t : Tree} {c s : At} {k : List At} {j : Nat} {v : Value} {l : List Nat} (x : Nat) (fW : Wf w0) (G : Gr kB w0 5 w v l) (hj : j = ρ.length) (hs : ∀ r, s.den (ρ ++ [r]) [] = v) (hc : c.den ρ [] = .int .u8 (x : Int)) (hk : ∀ y ∈ k, (y.den ρ []).oneCell' = true) (hlen : l.length + 1 ≤ MX)
    (K : ∀ r A c' ow, Lf w0 w ow → Gr kB w0 5 ow (.slice A (l ++ [x]).length c') (l ++ [x]) → satB Try.prog w0 R Pn Bk t (ρ ++ [r] ++ [.slice A (l ++ [x]).length c']) ow) :
    satB Try.prog w0 R Pn Bk (.row 5 [c] 1 k (.appk .u8 5 1 1 s (.lf j) t)) ρ w := by
  subst hj
  refine ⟨hk, fun w1 h1 => .inl ?_⟩
  have hcs : denL ρ [] [c] = [.int .u8 (x : Int)] := by simp [denL, hc]
  rw [hcs]
  have hB := Box.new w1.toWorld [.int .u8 (x : Int)] 5
  have hL1 : Le w0 w1 ⟨w1.alloc (.cells [.int .u8 (x : Int)].toArray 5), w1.own, w1.bld⟩ := Le.of h1.wf h1.b (by go_grown)
  have hNB : NB ⟨w1.alloc (.cells [.int .u8 (x : Int)].toArray 5), w1.own, w1.bld⟩ w1.heap.size := ⟨fun e => by have := (h1.wf.own _ e).2; omega, fun e => by have := (h1.wf.bld _ e).2.1; omega⟩
  have hR : Rows kB (NB ⟨w1.alloc (.cells [.int .u8 (x : Int)].toArray 5), w1.own, w1.bld⟩) (OW.mk (w1.alloc (.cells [.int .u8 (x : Int)].toArray 5)) w1.own w1.bld).toWorld (some ⟨w1.heap.size, 0, none⟩) 1 1 [x] := rows_one (k := kB) hB hNB rfl
  generalize w1.heap.size = N at *
  generalize (⟨w1.alloc (.cells [.int .u8 (x : Int)].toArray 5), w1.own, w1.bld⟩ : OW) = wa at *
  have hL := h1.trans hL1
  refine ⟨fW.u8, fun w2 h2 => ?_⟩
  have G2 := (G.le hL).le h2
  have hR2 := hR.mv (h2.toLf.mv fW.u64)
  rw [hs]
  have hden : (At.lf ρ.length).den (ρ ++ [Value.slice (some ⟨N, 0, none⟩) 1 1]) [] = .slice (some ⟨N, 0, none⟩) 1 1 := by simp [At.den]
  rw [hden]
  refine G2.app (l' := [x]) hR2 (by unfold MX at hlen; simp only [List.length_cons, List.length_nil, maxLen]; omega) (by unfold MX at hlen; simp only [List.length_cons, List.length_nil]; omega) fun A c' w3 hA hG => ?_
  exact K _ A c' w3 (hL.toLf.trans (h2.toLf.trans hA.toLf)) hG
end Sx
end Go.Proofs.Ytpkfjfpknbhekaa
