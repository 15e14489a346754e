/- What is read back from bytes, plainly. What is read has limbs that are limbs, plainly. A record's bytes cut off, with a byte behind, turned: plainly. -/
import Derived.Test.YtpkfjfpknbhekaaWrLx
import Derived.Test.YtpkfjfpknbhekaaWrRx
namespace Go.Proofs.Ytpkfjfpknbhekaa
open Go.RowKit Pl
theorem getS_ok {b : List Nat} {x : Rec} (h : getS b = (x, 0)) : (∃ t, prec b = some (x, t)) ∧ mayR x = true ∧ recB x = b := by
  unfold getS at h
  cases hp : prec b with
  | none => rw [hp] at h; cases h
  | some q =>
    obtain ⟨y, t⟩ := q
    rw [hp] at h
    simp only at h
    cases hm : mayR y && decide (recB y = b)
    · rw [hm] at h
      cases h
    · rw [hm] at h
      rw [Bool.and_eq_true, decide_eq_true_eq] at hm
      injection h with h1 h2
      subst h1
      exact ⟨⟨t, rfl⟩, hm⟩
theorem getS_two (b : List Nat) : (getS b).2 = 0 ∨ getS b = (zeroR, 9) := by
  unfold getS
  cases prec b with
  | none => exact .inr rfl
  | some q =>
    obtain ⟨y, t⟩ := q
    simp only
    cases mayR y && decide (recB y = b)
    · exact .inr rfl
    · exact .inl rfl
theorem getS_rec {r : Rec} (h : mayR r = true) (l : LimR r) : getS (recB r) = (r, 0) := by
  have hp := prec_back (rest := []) h l
  rw [List.append_nil] at hp
  unfold getS
  rw [hp]
  simp only [h, decide_true, Bool.and_self, cond_true]
/-- Two records with something behind: the same. -/
theorem rec_inj {x y : Rec} {s t : List Nat} (hx : mayR x = true) (lx : LimR x) (hy : mayR y = true) (ly : LimR y) (h : recB x ++ s = recB y ++ t) : x = y ∧ s = t := by
  have h1 := prec_back (rest := s) hx lx
  rw [h, prec_back hy ly] at h1
  injection h1 with h1
  injection h1 with h1 h2
  exact ⟨h1.symm, h2.symm⟩
end Go.Proofs.Ytpkfjfpknbhekaa
namespace Go.Proofs.Ytpkfjfpknbhekaa
open Go.RowKit Pl
def Byt (b : List Nat) : Prop := ∀ y ∈ b, y < 256
def GoodP {α : Type} (p : List Nat → Option (α × List Nat)) (P : α → Prop) : Prop := ∀ b x t, Byt b → p b = some (x, t) → P x ∧ Byt t
theorem andP_inv {α β : Type} {o : Option (α × List Nat)} {f : α → List Nat → Option β} {z : β} (h : andP o f = some z) : ∃ x b, o = some (x, b) ∧ f x b = some z := by
  cases o with
  | none => cases h
  | some q => exact ⟨q.1, q.2, rfl, h⟩
theorem Byt.tail {c : Nat} {b : List Nat} (h : Byt (c :: b)) : Byt b := fun y hy => h y (List.mem_cons_of_mem _ hy)
theorem good_pnumF (most : Nat) : ∀ (b : List Nat) (n j : Nat) (x : Nat) (t : List Nat), Byt b → pnumF most n j b = some (x, t) → Byt t
  | [], _, _, _, _, _, h => by cases h
  | c :: b, n, j, x, t, hb, h => by
    have h : (bif decide (most < n + c % 128 * 2 ^ (7 * j)) || decide (5 < j) then none else bif decide (c < 128) then some (n + c % 128 * 2 ^ (7 * j), b) else pnumF most (n + c % 128 * 2 ^ (7 * j)) (j + 1) b) = some (x, t) := h
    cases h1 : decide (most < n + c % 128 * 2 ^ (7 * j)) || decide (5 < j)
    · rw [h1, cond_false] at h
      cases h2 : decide (c < 128)
      · rw [h2, cond_false] at h
        exact good_pnumF most b _ _ x t hb.tail h
      · rw [h2, cond_true] at h
        injection h with h
        injection h with _ h
        rw [← h]
        exact hb.tail
    · rw [h1] at h
      cases h
theorem good_pnum (most : Nat) : GoodP (pnum most) (fun _ => True) := fun b x t hb h => ⟨trivial, good_pnumF most b 0 0 x t hb h⟩
theorem good_pbyte : GoodP pbyte (fun x => x < 256) := fun b x t hb h => by
  cases b with
  | nil => cases h
  | cons c b =>
    injection h with h
    injection h with h1 h2
    subst h1 h2
    exact ⟨hb _ (List.mem_cons_self ..), hb.tail⟩
theorem good_plimbF : ∀ (k : Nat) (m : Nat) (b : List Nat) (x : Nat) (t : List Nat), k ≤ 8 → m < 256 ^ (8 - k) → Byt b → plimbF k m b = some (x, t) → x < 256 ^ 8 ∧ Byt t
  | 0, m, b, x, t, _, hm, hb, h => by
    injection h with h
    injection h with h1 h2
    subst h1 h2
    exact ⟨hm, hb⟩
  | _ + 1, _, [], _, _, _, _, _, h => by cases h
  | k + 1, m, c :: b, x, t, hk, hm, hb, h => by
    have hs := lt_step (x := c) hm (hb _ (List.mem_cons_self ..))
    refine good_plimbF k (m + c * 256 ^ (7 - k)) b x t (by omega) ?_ hb.tail h
    rw [show 8 - (k + 1) = 7 - k by omega] at hs
    rw [show 8 - k = 7 - k + 1 by omega]
    exact hs
theorem good_plimb : GoodP plimb (fun x => x < BB) := fun b x t hb h => good_plimbF 8 0 b x t (Nat.le_refl _) (by decide) hb h
theorem good_prep {α : Type} {p : List Nat → Option (α × List Nat)} {P : α → Prop} (hp : GoodP p P) : ∀ (n : Nat) (acc : List α) (b : List Nat) (l : List α) (t : List Nat), (∀ x ∈ acc, P x) → Byt b → prep p n acc b = some (l, t) → (∀ x ∈ l, P x) ∧ Byt t
  | 0, acc, b, l, t, ha, hb, h => by
    injection h with h
    injection h with h1 h2
    subst h1 h2
    exact ⟨ha, hb⟩
  | n + 1, acc, b, l, t, ha, hb, h => by
    obtain ⟨x, b1, h1, h2⟩ := andP_inv h
    obtain ⟨q1, q2⟩ := hp b x b1 hb h1
    refine good_prep hp n (acc ++ [x]) b1 l t (fun y hy => ?_) q2 h2
    rcases List.mem_append.1 hy with hy | hy
    · exact ha y hy
    · obtain rfl := List.mem_singleton.1 hy
      exact q1
theorem good_prow {α : Type} {most : Nat} {p : List Nat → Option (α × List Nat)} {P : α → Prop} (hp : GoodP p P) : GoodP (prow most p) (fun l => ∀ x ∈ l, P x) := fun b l t hb h => by
  obtain ⟨n, b1, h1, h2⟩ := andP_inv h
  exact good_prep hp n [] b1 l t (fun _ h => by cases h) (good_pnum _ b n b1 hb h1).2 h2
theorem good_pdy : GoodP pdy LimD := fun b d t hb h => by
  obtain ⟨n, b1, h1, h2⟩ := andP_inv h
  have g1 := (good_pnum _ b n b1 hb h1).2
  obtain ⟨m, b2, h3, h4⟩ := andP_inv h2
  have g2 := good_prep good_plimb n [] b1 m b2 (fun _ h => by cases h) g1 h3
  obtain ⟨c, b3, h5, h6⟩ := andP_inv h4
  have g3 := (good_pbyte b2 c b3 g2.2 h5).2
  obtain ⟨e, b4, h7, h8⟩ := andP_inv h6
  have g4 := (good_pnum _ b3 e b4 g3 h7).2
  injection h8 with h8
  injection h8 with h9 h10
  subst h9 h10
  exact ⟨g2.1, g4⟩
theorem good_piv : GoodP piv LimI := fun b a t hb h => by
  obtain ⟨x, b1, h1, h2⟩ := andP_inv h
  obtain ⟨l1, g1⟩ := good_pdy b x b1 hb h1
  obtain ⟨y, b2, h3, h4⟩ := andP_inv h2
  obtain ⟨l2, g2⟩ := good_pdy b1 y b2 g1 h3
  injection h4 with h4
  injection h4 with h5 h6
  subst h5 h6
  exact ⟨⟨l1, l2⟩, g2⟩
theorem good_ptb : GoodP ptb LimT' := fun b a t hb h => by
  obtain ⟨n, b1, h1, h2⟩ := andP_inv h
  have g1 := (good_pnum _ b n b1 hb h1).2
  obtain ⟨p, b2, h3, h4⟩ := andP_inv h2
  obtain ⟨l2, g2⟩ := good_prep good_pdy (n + 1) [] b1 p b2 (fun _ h => by cases h) g1 h3
  obtain ⟨q, b3, h5, h6⟩ := andP_inv h4
  obtain ⟨l3, g3⟩ := good_prep good_piv n [] b2 q b3 (fun _ h => by cases h) g2 h5
  injection h6 with h6
  injection h6 with h7 h8
  subst h7 h8
  exact ⟨⟨l2, l3⟩, g3⟩
theorem good_prec : GoodP prec LimR := fun b r t hb h => by
  obtain ⟨k, b1, h1, h2⟩ := andP_inv h
  have g1 := (good_pnum _ b k b1 hb h1).2
  obtain ⟨e, b2, h3, h4⟩ := andP_inv h2
  have g2 := (good_pnum _ b1 e b2 g1 h3).2
  obtain ⟨c, b3, h5, h6⟩ := andP_inv h4
  have g3 := (good_pnum _ b2 c b3 g2 h5).2
  obtain ⟨x, b4, h7, h8⟩ := andP_inv h6
  obtain ⟨l4, g4⟩ := good_pdy b3 x b4 g3 h7
  obtain ⟨y, b5, h9, h10⟩ := andP_inv h8
  obtain ⟨l5, g5⟩ := good_pdy b4 y b5 g4 h9
  obtain ⟨bx, b6, h11, h12⟩ := andP_inv h10
  obtain ⟨l6, g6⟩ := good_prow (good_prow good_piv) b5 bx b6 g5 h11
  obtain ⟨sg, b7, h13, h14⟩ := andP_inv h12
  obtain ⟨l7, g7⟩ := good_prow (good_prow good_ptb) b6 sg b7 g6 h13
  injection h14 with h14
  injection h14 with h15 h16
  subst h15 h16
  exact ⟨⟨l4, l5, l6, l7⟩, g7⟩
end Go.Proofs.Ytpkfjfpknbhekaa
namespace Go.Proofs.Ytpkfjfpknbhekaa
open Go.RowKit Pl
theorem Byt.app {a b : List Nat} (ha : Byt a) (hb : Byt b) : Byt (a ++ b) := fun y hy => (List.mem_append.1 hy).elim (ha y) (hb y)
theorem Byt.one {x : Nat} (h : x < 256) : Byt [x] := fun y hy => by obtain rfl := List.mem_singleton.1 hy; exact h
theorem byt_num : ∀ (k n : Nat), n ≤ k → Byt (numB n)
  | k, n, hk => by
    by_cases h : n < 128
    · rw [numB_lo h]; exact Byt.one (by omega)
    · rw [numB_hi h]
      cases k with
      | zero => omega
      | succ k => exact Byt.app (a := [n % 128 + 128]) (Byt.one (by omega)) (byt_num k (n / 128) (by omega))
theorem byt_numB (n : Nat) : Byt (numB n) := byt_num n n (Nat.le_refl _)
theorem byt_flat {α : Type} {enc : α → List Nat} (h : ∀ x, Byt (enc x)) (l : List α) : Byt (l.flatMap enc) := fun y hy => by
  obtain ⟨x, _, hx⟩ := List.mem_flatMap.1 hy
  exact h x y hx
theorem byt_limb (x : Nat) : Byt (limbB x) := fun y hy => by
  unfold limbB at hy
  obtain ⟨k, _, rfl⟩ := List.mem_map.1 hy
  exact Nat.mod_lt _ (by omega)
theorem byt_dy (d : Dy) : Byt (dyB d) := by
  unfold dyB
  refine (byt_numB _).app ((byt_flat byt_limb _).app (Byt.app (Byt.one ?_) ?_))
  · cases d.neg <;> decide
  · cases decide (d.e < 0)
    · exact byt_numB _
    · exact byt_numB _
theorem byt_iv (a : Iv) : Byt (ivB a) := (byt_dy _).app (byt_dy _)
theorem byt_tb (t : Tb) : Byt (tbB t) := (byt_numB _).app ((byt_flat byt_dy _).app (byt_flat byt_iv _))
theorem byt_row {α : Type} {enc : α → List Nat} (h : ∀ x, Byt (enc x)) (l : List α) : Byt (rowB enc l) := (byt_numB _).app (byt_flat h l)
theorem byt_rec (r : Rec) : Byt (recB r) := (byt_numB _).app ((byt_numB _).app ((byt_numB _).app ((byt_dy _).app ((byt_dy _).app ((byt_row (byt_row byt_iv) _).app (byt_row (byt_row byt_tb) _))))))
/-- What Get takes is a record's bytes. -/
theorem getS_is {b : List Nat} {x : Rec} (hb : Byt b) (h : getS b = (x, 0)) : mayR x = true ∧ LimR x ∧ recB x = b := by
  obtain ⟨⟨t, h1⟩, h2, h3⟩ := getS_ok h
  exact ⟨h2, (good_prec b x t hb h1).1, h3⟩
theorem getS_no {b : List Nat} (h : ∀ x, getS b ≠ (x, 0)) : getS b = (zeroR, 9) := (getS_two b).elim (fun e => absurd (show getS b = ((getS b).1, 0) by rw [← e]) (h _)) id
theorem getS_cut {r : Rec} (h : mayR r = true) (l : LimR r) {k : Nat} (hk : k < (recB r).length) : getS ((recB r).take k) = (zeroR, 9) := getS_no fun x hx => by
  obtain ⟨h1, h2, h3⟩ := getS_is (fun y hy => byt_rec r y (List.mem_of_mem_take hy)) hx
  have := (rec_inj (s := (recB r).drop k) (t := []) h1 h2 h l (by rw [h3, List.take_append_drop, List.append_nil])).2
  have hl := congrArg List.length this
  rw [List.length_drop] at hl
  simp at hl
  omega
theorem getS_more {r : Rec} (h : mayR r = true) (l : LimR r) {c : Nat} (hc : c < 256) : getS (recB r ++ [c]) = (zeroR, 9) := getS_no fun x hx => by
  obtain ⟨h1, h2, h3⟩ := getS_is ((byt_rec r).app (Byt.one hc)) hx
  have := (rec_inj (s := []) (t := [c]) h1 h2 h l (by rw [h3, List.append_nil])).2
  cases this
/-- What is turned is another record, or none. -/
theorem getS_turn {r : Rec} (h : mayR r = true) (l : LimR r) {b : List Nat} (hb : Byt b) : (getS b = (zeroR, 9) ∧ b ≠ recB r) ∨ ∃ y, getS b = (y, 0) ∧ mayR y = true ∧ recB y = b ∧ (y = r ↔ b = recB r) := by
  rcases getS_two b with e | e
  · have e2 : getS b = ((getS b).1, 0) := by rw [← e]
    obtain ⟨h1, h2, h3⟩ := getS_is hb e2
    refine .inr ⟨_, e2, h1, h3, fun q => by rw [← h3, q], fun q => ?_⟩
    exact (rec_inj (s := []) (t := []) h1 h2 h l (by rw [h3, q])).1
  · refine .inl ⟨e, fun q => ?_⟩
    rw [q, getS_rec h l] at e
    injection e with _ e
    cases e
end Go.Proofs.Ytpkfjfpknbhekaa
