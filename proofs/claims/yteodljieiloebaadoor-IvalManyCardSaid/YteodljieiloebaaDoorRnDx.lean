/- round.may, of any number of Dyads, by its tree. Printed by wip/mk_RnD.py. -/
import Derived.Test.YteodljieiloebaaDoorRnBx
import Derived.Test.YteodljieiloebaaDoorSxGx
namespace Go.Proofs.YteodljieiloebaaDoor
open Go.RowKit Pl
open Sx (sat_call sat_chk sat_prim sat_ite sat_true sat_false sat_trueP sat_falseP sat_ret sat_row sat_callP sat_loop sat_back sat_idx sat_el sat_elf sat_load sat_rowN rows_one rows_two all_nil all_cons okB okS okI)

def mayS (p : Int) (l : List Dy) : Bool := decide ((1 : Int) ≤ p) && decide (p ≤ (2000 : Int)) && l.all mayD
theorem all_false {α : Type} {f : α → Bool} {l : List α} {i : Nat} {x : α} (h : l[i]? = some x) (hx : f x = false) : l.all f = false := by
  rw [List.all_eq_false]
  exact ⟨x, List.mem_of_getElem? h, by simp [hx]⟩
theorem all_take {α : Type} {f : α → Bool} {l : List α} {i : Nat} {x : α} (h0 : (l.take i).all f = true) (h : l[i]? = some x) (hx : f x = true) : (l.take (i + 1)).all f = true := by
  obtain ⟨hi, he⟩ := List.getElem?_eq_some_iff.1 h
  rw [List.take_succ_eq_append_getElem hi, List.all_append, h0, he]
  simp [hx]
theorem all_end {α : Type} {f : α → Bool} {l : List α} {i : Nat} (h0 : (l.take i).all f = true) (h : decide ((i : Int) < (l.length : Int)) = false) : l.all f = true := by
  have : l.length ≤ i := by have := of_decide_eq_false h; omega
  rwa [List.take_of_length_le this] at h0
theorem lt_of {i n : Nat} (h : decide ((i : Int) < (n : Int)) = true) : i < n := by have := of_decide_eq_true h; omega

def tr_rmay : Sx.Tree := .prim (.bin .geq) [.lf 0, .num .i64 1] (.ite (.lf 2) (.prim (.bin .leq) [.lf 0, .num .i64 2000] (.call 65 [.one (.lf 3), .one (.num .i64 1)] (.tup []) (.prim .len [.lf 1] (.loop 0 [.num .i64 0] (.prim (.bin .lss) [.lf 5, .lf 4] (.ite (.lf 6) (.prim (.idx 3) [.lf 1, .lf 5] (.load 26 (.lf 7) (.ag 3) (.chk [.lf 8, .lf 9, .lf 10] (.call 36 [.ag [.lf 8, .lf 9, .lf 10]] .one (.call 65 [.one (.lf 11), .one (.num .i64 1)] (.tup []) (.prim (.bin .add) [.lf 5, .num .i64 1] (.back 0 [.lf 12]))))))) (.ret (.tup [])))))))) (.call 65 [.one (.bit false), .one (.num .i64 1)] (.tup []) (.prim .len [.lf 1] (.loop 0 [.num .i64 0] (.prim (.bin .lss) [.lf 4, .lf 3] (.ite (.lf 5) (.prim (.idx 3) [.lf 1, .lf 4] (.load 26 (.lf 6) (.ag 3) (.chk [.lf 7, .lf 8, .lf 9] (.call 36 [.ag [.lf 7, .lf 8, .lf 9]] .one (.call 65 [.one (.lf 10), .one (.num .i64 1)] (.tup []) (.prim (.bin .add) [.lf 4, .num .i64 1] (.back 0 [.lf 11]))))))) (.ret (.tup []))))))))
theorem tr_rmay_eq : Sx.treeAt Tryd.prog 64 [] [] [(false, 1), (false, 1)] = some tr_rmay := by kernel_rfl

set_option maxRecDepth 100000 in
theorem mayR_any (A_l : Option Addr) (c_l : Nat) (p : Int) (l : List Dy) (w : World) (h_l : Sx.Rows Sx.kD (fun _ => True) w A_l l.length c_l l) :
    Calls Tryd.prog 64 #[.int .i64 p, .slice A_l l.length c_l] w fun e w' => Below w.heap.size w w' ∧ ((mayS p l = true ∧ e = .returned (.tuple #[])) ∨ (mayS p l = false ∧ e = .panicked (failDR 1))) := by
  have F_l := h_l.start
  have M_l := h_l.le
  clear h_l
  refine (Sx.runAt [] [] (ls := [.int .i64 p, .slice A_l l.length c_l]) (shs := [(false, 1), (false, 1)]) (R := fun v _ => mayS p l = true ∧ v = .tuple #[]) (Pn := fun c _ => mayS p l = false ∧ c = failDR 1) tr_rmay_eq rfl (by decide) (fun q h => by cases h) ?_).mono (fun e w' ⟨hb, h⟩ => ⟨hb, h.elim (fun ⟨v, he, h1, h2⟩ => .inl ⟨h1, by rw [he, h2]⟩) (fun ⟨c, he, h1, h2⟩ => .inr ⟨h1, by rw [he, h2]⟩)⟩)
  unfold tr_rmay
  refine sat_prim (v := .bool (decide ((1 : Int) ≤ p))) (by kernel_rfl) ?_
  cases hp1 : (decide ((1 : Int) ≤ p))
  · refine sat_false (by kernel_rfl) ?_
    refine sat_callP #[.bool false, .int .i64 1] (by kernel_rfl) fun w1 h1 => ?_
    exact (must_noR _ _).mono fun e w2 ⟨he, hw⟩ => ⟨_, he, hw ▸ Below.refl _ _, by unfold mayS; rw [hp1]; rfl, rfl⟩
  · refine sat_true (by kernel_rfl) ?_
    refine sat_prim (v := .bool (decide ((p : Int) ≤ 2000))) (by kernel_rfl) ?_
    cases hx1 : (decide ((p : Int) ≤ 2000))
    · refine sat_callP #[.bool false, .int .i64 1] (by kernel_rfl) fun w1 h1 => ?_
      exact (must_noR _ _).mono fun e w2 ⟨he, hw⟩ => ⟨_, he, hw ▸ Below.refl _ _, by unfold mayS; rw [hp1, hx1]; rfl, rfl⟩
    · refine sat_call #[.bool true, .int .i64 1] (by kernel_rfl) fun w2 h2 => ?_
      refine (must_yesB _ _).mono ?_
      rintro e v2 ⟨rfl, hb2⟩
      refine ⟨hb2, [], _, rfl, by kernel_rfl, by kernel_rfl, fun g2 => ?_⟩
      replace F_l := F_l.mv g2.mv
      clear h2 hb2
      refine sat_prim (v := .int .i64 l.length) (by kernel_rfl) ?_
      have hp2 := hx1
      refine sat_loop (fun k vs W => ∃ i : Nat, vs = [.int .i64 ((i : Nat) : Int)] ∧ k = l.length - i ∧ i ≤ l.length ∧ (l.take i).all mayD = true) [.int .i64 0] (by kernel_rfl) (fun w1 h1 => ⟨_, 0, rfl, rfl, Nat.zero_le _, rfl⟩) ?_
      rintro k vs w2 h2 ⟨i, rfl, rfl, hi, hal⟩
      replace F_l := F_l.mv h2.mv
      refine sat_prim (v := .bool (decide ((((i : Nat) : Int) : Int) < l.length))) (by kernel_rfl) ?_
      cases hlt : (decide ((((i : Nat) : Int) : Int) < l.length))
      · refine sat_false (by kernel_rfl) ?_
        exact sat_ret (.tuple #[]) (by kernel_rfl) fun w9 h9 => ⟨by unfold mayS; rw [hp1, hp2, all_end hal hlt]; rfl, rfl⟩
      · refine sat_true (by kernel_rfl) ?_
        refine sat_idx (A := A_l) (c := c_l) (kk := .i64) (i) (by kernel_rfl) (by kernel_rfl) (lt_of hlt) F_l.addr fun g4 o4 e4 => ?_
        obtain ⟨x1, h_x1⟩ : ∃ x, l[(i)]? = some x := ⟨_, List.getElem?_eq_getElem (lt_of hlt)⟩
        refine sat_el F_l e4 h_x1 rfl (by kernel_rfl) (by kernel_rfl) (by kernel_rfl) ?_
        rintro _ ⟨A_L2, n_L2, c_L2, rfl, r_L2⟩
        refine sat_chk (all_cons (okB _) (all_cons (okS _ _ _) (all_cons (okI _) (all_nil)))) ?_
        refine sat_call #[.agg #[.bool x1.neg, .slice A_L2 n_L2 c_L2, .int .i64 x1.e]] (by kernel_rfl) fun w5 h5 => ?_
        refine (mayD_any _ (x1) _ (h5.rdD r_L2)).mono ?_
        rintro e v5 ⟨rfl, hb5⟩
        refine ⟨hb5, [.bool (mayD x1)], _, rfl, by kernel_rfl, by kernel_rfl, fun g5 => ?_⟩
        replace F_l := F_l.mv g5.mv; replace r_L2 := g5.rdD r_L2
        clear h5 hb5
        cases hx5 : (mayD x1)
        · refine sat_callP #[.bool false, .int .i64 1] (by kernel_rfl) fun w1 h1 => ?_
          exact (must_noR _ _).mono fun e w2 ⟨he, hw⟩ => ⟨_, he, hw ▸ Below.refl _ _, by unfold mayS; rw [hp1, hp2, all_false h_x1 hx5]; rfl, rfl⟩
        · refine sat_call #[.bool true, .int .i64 1] (by kernel_rfl) fun w6 h6 => ?_
          refine (must_yesB _ _).mono ?_
          rintro e v6 ⟨rfl, hb6⟩
          refine ⟨hb6, [], _, rfl, by kernel_rfl, by kernel_rfl, fun g6 => ?_⟩
          replace F_l := F_l.mv g6.mv; replace r_L2 := g6.rdD r_L2
          clear h6 hb6
          refine sat_prim (v := .int .i64 (((i + 1 : Nat)) : Int)) (Eq.trans (b := some (.int .i64 (IntKind.i64.wrap ((((i) : Nat) : Int) + 1)))) (by kernel_rfl) (by rw [Sx.wrap_succ (n := l.length) (lt_of hlt) M_l])) ?_
          exact sat_back [.int .i64 (((i + 1 : Nat)) : Int)] (by kernel_rfl) fun w9 h9 => ⟨_, by have := lt_of hlt; omega, i + 1, rfl, rfl, by have := lt_of hlt; omega, all_take hal h_x1 hx5⟩

end Go.Proofs.YteodljieiloebaaDoor
