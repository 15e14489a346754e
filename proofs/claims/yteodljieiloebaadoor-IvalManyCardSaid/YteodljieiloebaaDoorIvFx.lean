/- The walk of IvalMany, by its tree. Printed by wip/mk_IvF.py. -/
import Derived.Test.YteodljieiloebaaDoorSeqIx
import Derived.Test.YteodljieiloebaaDoorIvCx
import Derived.Test.YteodljieiloebaaDoorIvBx
import Derived.Test.YteodljieiloebaaDoorRnDx
namespace Go.Proofs.YteodljieiloebaaDoor
open Go.RowKit Pl
open Sx (sat_call sat_chk sat_prim sat_ite sat_true sat_false sat_trueP sat_falseP sat_ret sat_row sat_callP sat_loop sat_back sat_idx sat_el sat_elf sat_load all_nil all_cons okB okS okI)

theorem rows_lims {ok : Nat → Prop} {w : World} {A : Option Addr} {n c : Nat} {l : List Iv} (h : Sx.Rows Sx.kI ok w A n c l) : ∀ x ∈ l, Lim BB x.lo.m ∧ Lim BB x.hi.m := by
  intro x hx
  obtain ⟨i, hi⟩ := List.mem_iff_getElem?.1 hx
  have hn : 0 < n := by have := (List.getElem?_eq_some_iff.1 hi).1; have := h.len; omega
  obtain ⟨_, _, _, _, _, h4⟩ := h.at_ hn
  obtain ⟨cs, ⟨_, _, _, _, _, _, _, r1, r2⟩, _⟩ := h4 i x hi
  exact ⟨r1.lim, r2.lim⟩
theorem mayI_GI {x : Iv} (hm : mayI x = true) (hl : Lim BB x.lo.m ∧ Lim BB x.hi.m) : GI x := let q := mayI_parts hm; ⟨⟨q.1, hl.1⟩, ⟨q.2.1, hl.2⟩⟩
structure HullI (l : List Iv) (i : Nat) (h : Iv) : Prop where
  el : ∃ y ∈ l, y.lo = h.lo
  eh : ∃ y ∈ l, y.hi = h.hi
  zero : i = 0 → l[0]? = some h
  may : 0 < i → mayI h = true
  all : ∀ y ∈ l.take i, mayI y = true ∧ withinI y h = true
theorem HullI.start {l : List Iv} {h : Iv} (hx : l[0]? = some h) : HullI l 0 h := ⟨⟨h, List.mem_of_getElem? hx, rfl⟩, ⟨h, List.mem_of_getElem? hx, rfl⟩, fun _ => hx, fun h => absurd h (by omega), fun y hy => by simp at hy⟩
theorem HullI.mayH {l : List Iv} {i : Nat} {h x : Iv} (H : HullI l i h) (hx : l[i]? = some x) (hm : mayI x = true) : mayI h = true := by
  rcases Nat.eq_zero_or_pos i with h0 | h0
  · have := H.zero h0
    rw [h0] at hx
    rw [hx] at this
    cases this
    exact hm
  · exact H.may h0
theorem hull_yes' {a b : Iv} (ha : mayI a = true) (hb : mayI b = true) : hullI a b = (⟨leastD a.lo b.lo, greatestD a.hi b.hi⟩, 0) := by unfold hullI; rw [ha, hb]; rfl
theorem HullI.step {l : List Iv} {i : Nat} {h x : Iv} (H : HullI l i h) (hx : l[i]? = some x) (hm : mayI x = true) (HL : ∀ x ∈ l, Lim BB x.lo.m ∧ Lim BB x.hi.m) (l1 : Lim BB h.lo.m) (l2 : Lim BB h.hi.m) : HullI l (i + 1) ⟨leastD h.lo x.lo, greatestD h.hi x.hi⟩ := by
  have hmx := List.mem_of_getElem? hx
  have hh := H.mayH hx hm
  have A := mayI_GI hh ⟨l1, l2⟩
  have B := mayI_GI hm (HL x hmx)
  obtain ⟨g1, e1, f1, f2⟩ := A.lo.least B.lo
  obtain ⟨g2, e2, f3, f4⟩ := A.hi.greatest B.hi
  have ha := A.may.1 hh
  have hb := B.may.1 hm
  have C : GI ⟨leastD h.lo x.lo, greatestD h.hi x.hi⟩ := ⟨g1, g2⟩
  have hC : ZD (leastD h.lo x.lo) ≤ ZD (greatestD h.hi x.hi) := by omega
  refine ⟨?_, ?_, fun h => absurd h (by omega), fun _ => C.may.2 hC, fun y hy => ?_⟩
  · show ∃ y ∈ l, y.lo = leastD h.lo x.lo
    unfold leastD
    cases decide (cmpD h.lo x.lo ≤ 0) with
    | true => exact H.el
    | false => exact ⟨x, hmx, rfl⟩
  · show ∃ y ∈ l, y.hi = greatestD h.hi x.hi
    unfold greatestD
    cases decide (0 ≤ cmpD h.hi x.hi) with
    | true => exact H.eh
    | false => exact ⟨x, hmx, rfl⟩
  · obtain ⟨hi, he⟩ := List.getElem?_eq_some_iff.1 hx
    rw [List.take_succ_eq_append_getElem hi, List.mem_append, he] at hy
    rcases hy with hy | hy
    · obtain ⟨h1, h2⟩ := H.all y hy
      have Y := mayI_GI h1 (HL y (List.mem_of_mem_take hy))
      have h3 := (Y.within A).1 h2
      exact ⟨h1, (Y.within C).2 ⟨h3.1, hC, by show ZD (leastD h.lo x.lo) ≤ _; omega, by show _ ≤ ZD (greatestD h.hi x.hi); omega⟩⟩
    · rw [List.mem_singleton.1 hy]
      exact ⟨hm, (B.within C).2 ⟨hb, hC, f2, f4⟩⟩
theorem HullI.within {l : List Iv} {i j : Nat} {h y : Iv} (H : HullI l i h) (hlt : decide ((i : Int) < (l.length : Int)) = false) (hy : l[j]? = some y) : withinI y h = true := by
  have : l.length ≤ i := by have := of_decide_eq_false hlt; omega
  have hm := List.mem_of_getElem? hy
  rw [← List.take_of_length_le this] at hm
  exact (H.all y hm).2
theorem any_succ {α : Type} {f : α → Bool} {l : List α} {i : Nat} {x : α} (h : l[i]? = some x) : (l.take (i + 1)).any f = ((l.take i).any f || f x) := by
  obtain ⟨hi, he⟩ := List.getElem?_eq_some_iff.1 h
  rw [List.take_succ_eq_append_getElem hi, List.any_append, he]
  simp
theorem any_lo {l : List Iv} {j : Nat} {b : Bool} {z : Dy} (e : b = (l.take j).any fun y => sameD y.lo z) (hlt : decide ((j : Int) < (l.length : Int)) = false) (h : ∃ y ∈ l, y.lo = z) : b = true := by
  have : l.length ≤ j := by have := of_decide_eq_false hlt; omega
  rw [e, List.take_of_length_le this, List.any_eq_true]
  obtain ⟨y, h1, h2⟩ := h
  exact ⟨y, h1, by rw [h2]; exact sameD_self _⟩
theorem any_hi {l : List Iv} {j : Nat} {b : Bool} {z : Dy} (e : b = (l.take j).any fun y => sameD y.hi z) (hlt : decide ((j : Int) < (l.length : Int)) = false) (h : ∃ y ∈ l, y.hi = z) : b = true := by
  have : l.length ≤ j := by have := of_decide_eq_false hlt; omega
  rw [e, List.take_of_length_le this, List.any_eq_true]
  obtain ⟨y, h1, h2⟩ := h
  exact ⟨y, h1, by rw [h2]; exact sameD_self _⟩

theorem nlt' {a b : Int} (h : decide (a < b) = false) : b ≤ a := by simpa using h

def tr_ivalMany : Sx.Tree := .prim .len [.lf 0] (.prim (.bin .lss) [.lf 1, .num .i64 1] (.ite (.lf 2) (.call 13 [] .one (.ret (.one (.lf 3)))) (.prim .len [.lf 0] (.prim (.bin .gtr) [.lf 3, .num .i64 8] (.ite (.lf 4) (.call 13 [] .one (.ret (.one (.lf 5)))) (.prim (.idx 6) [.lf 0, .num .i64 0] (.load 28 (.lf 5) (.ag 6) (.chk [.lf 6, .lf 7, .lf 8, .lf 9, .lf 10, .lf 11] (.loop 0 [.num .i64 0, .bit false, .lf 6, .lf 7, .lf 8, .lf 9, .lf 10, .lf 11] (.prim .len [.lf 0] (.prim (.bin .lss) [.lf 12, .lf 20] (.ite (.lf 21) (.prim (.idx 6) [.lf 0, .lf 12] (.load 28 (.lf 22) (.ag 6) (.call 14 [.ag [.lf 23, .lf 24, .lf 25, .lf 26, .lf 27, .lf 28]] .one (.prim .not [.lf 29] (.ite (.lf 30) (.call 13 [] .one (.ret (.one (.lf 31)))) (.prim (.idx 6) [.lf 0, .lf 12] (.load 28 (.lf 31) (.ag 6) (.call 15 [.ag [.lf 32, .lf 33, .lf 34, .lf 35, .lf 36, .lf 37]] .one (.prim .not [.lf 38] (.ite (.lf 39) (.call 13 [] .one (.ret (.one (.lf 40)))) (.prim (.idx 6) [.lf 0, .lf 12] (.load 28 (.lf 40) (.ag 6) (.call 16 [.ag [.lf 14, .lf 15, .lf 16, .lf 17, .lf 18, .lf 19], .ag [.lf 41, .lf 42, .lf 43, .lf 44, .lf 45, .lf 46]] (.tup [(true, 6), (false, 1)]) (.chk [.lf 47, .lf 48, .lf 49, .lf 50, .lf 51, .lf 52] (.prim (.bin .neq) [.lf 53, .num .i64 0] (.ite (.lf 54) (.ret (.one (.bit false))) (.chk [.lf 47, .lf 48, .lf 49, .lf 50, .lf 51, .lf 52] (.prim (.bin .add) [.lf 12, .num .i64 1] (.back 0 [.lf 55, .lf 13, .lf 47, .lf 48, .lf 49, .lf 50, .lf 51, .lf 52]))))))))))))))))))) (.loop 0 [.num .i64 0, .bit false, .bit false, .lf 13, .lf 14, .lf 15, .lf 16, .lf 17, .lf 18, .lf 19] (.prim .len [.lf 0] (.prim (.bin .lss) [.lf 22, .lf 32] (.ite (.lf 33) (.prim (.idx 6) [.lf 0, .lf 22] (.load 28 (.lf 34) (.ag 6) (.call 17 [.ag [.lf 35, .lf 36, .lf 37, .lf 38, .lf 39, .lf 40], .ag [.lf 26, .lf 27, .lf 28, .lf 29, .lf 30, .lf 31]] .one (.prim .not [.lf 41] (.ite (.lf 42) (.ret (.one (.bit false))) (.ite (.lf 24) (.ite (.lf 23) (.prim (.bin .add) [.lf 22, .num .i64 1] (.back 0 [.lf 43, .bit true, .bit true, .lf 25, .lf 26, .lf 27, .lf 28, .lf 29, .lf 30, .lf 31])) (.prim (.idx 6) [.lf 0, .lf 22] (.prim (.fld 3) [.lf 43] (.load 26 (.lf 44) (.ag 3) (.call 18 [.ag [.lf 45, .lf 46, .lf 47], .ag [.lf 29, .lf 30, .lf 31]] .one (.prim (.bin .add) [.lf 22, .num .i64 1] (.back 0 [.lf 49, .lf 48, .bit true, .lf 25, .lf 26, .lf 27, .lf 28, .lf 29, .lf 30, .lf 31]))))))) (.prim (.idx 6) [.lf 0, .lf 22] (.prim (.fld 0) [.lf 43] (.load 26 (.lf 44) (.ag 3) (.call 18 [.ag [.lf 45, .lf 46, .lf 47], .ag [.lf 26, .lf 27, .lf 28]] .one (.ite (.lf 23) (.prim (.bin .add) [.lf 22, .num .i64 1] (.back 0 [.lf 49, .bit true, .lf 48, .lf 25, .lf 26, .lf 27, .lf 28, .lf 29, .lf 30, .lf 31])) (.prim (.idx 6) [.lf 0, .lf 22] (.prim (.fld 3) [.lf 49] (.load 26 (.lf 50) (.ag 3) (.call 18 [.ag [.lf 51, .lf 52, .lf 53], .ag [.lf 29, .lf 30, .lf 31]] .one (.prim (.bin .add) [.lf 22, .num .i64 1] (.back 0 [.lf 55, .lf 54, .lf 48, .lf 25, .lf 26, .lf 27, .lf 28, .lf 29, .lf 30, .lf 31]))))))))))))))))) (.call 13 [] .one (.ite (.lf 34) (.ite (.lf 24) (.ret (.one (.lf 23))) (.ret (.one (.bit false)))) (.ret (.one (.bit false)))))))))))))))))))))
theorem tr_ivalMany_eq : Sx.treeAt Tryd.prog 3 [] [0] [(false, 1)] = some tr_ivalMany := by kernel_rfl

set_option maxRecDepth 100000 in
set_option maxHeartbeats 4000000 in
theorem ivalMany_any (A_l : Option Addr) (c_l : Nat) (l : List Iv) (w : World) (h_l : Sx.Rows Sx.kI (fun _ => True) w A_l l.length c_l l) (hT : TabAt w) :
    Calls Tryd.prog 3 #[.slice A_l l.length c_l] w fun e w' => e = .returned (.bool true) ∧ Below w.heap.size w w' := by
  have F_l := h_l.start
  have M_l := h_l.le
  clear h_l
  refine (Sx.runA [] [0] (ls := [.slice A_l l.length c_l]) (shs := [(false, 1)]) (R := fun v w' => v = .bool true) tr_ivalMany_eq rfl (by decide) (fun q h => by cases h) ?_).mono (fun e w' ⟨v, he, hv, hb⟩ => ⟨by rw [he, hv], hb⟩)
  unfold tr_ivalMany
  refine sat_prim (v := .int .i64 ((l.length : Nat) : Int)) (by kernel_rfl) ?_
  refine sat_prim (v := .bool (decide ((((l.length : Nat) : Int) : Int) < 1))) (by kernel_rfl) ?_
  cases h1 : (decide ((((l.length : Nat) : Int) : Int) < 1))
  · refine sat_false (by kernel_rfl) ?_
    refine sat_prim (v := .int .i64 ((l.length : Nat) : Int)) (by kernel_rfl) ?_
    refine sat_prim (v := .bool (decide ((8 : Int) < ((l.length : Nat) : Int)))) (by kernel_rfl) ?_
    cases h8 : (decide ((8 : Int) < ((l.length : Nat) : Int)))
    · refine sat_false (by kernel_rfl) ?_
      refine sat_idx (A := A_l) (c := c_l) (kk := .i64) 0 (by kernel_rfl) (by kernel_rfl) (by have := nlt' h1; omega) F_l.addr fun g3 o3 e3 => ?_
      obtain ⟨x1, h_x1⟩ : ∃ x, l[0]? = some x := ⟨_, List.getElem?_eq_getElem (by have := nlt' h1; omega)⟩
      refine sat_el F_l e3 h_x1 rfl (by kernel_rfl) (by kernel_rfl) (by kernel_rfl) ?_
      rintro _ ⟨A_L1, n_L1, c_L1, B_L1, m_L1, k_L1, rfl, r_L1l, r_L1h⟩
      refine sat_chkB (by kernel_rfl) ?_
      have HL := rows_lims F_l
      refine sat_loop (fun k vs W => ∃ (i : Nat) (h : Iv) (A_h : Option Addr) (n_h c_h : Nat) (B_h : Option Addr) (m_h k_h : Nat), vs = [.int .i64 ((i : Nat) : Int), .bool false, .bool h.lo.neg, .slice A_h n_h c_h, .int .i64 h.lo.e, .bool h.hi.neg, .slice B_h m_h k_h, .int .i64 h.hi.e] ∧ k = l.length - i ∧ i ≤ l.length ∧ RdD W.toWorld (.agg #[.bool h.lo.neg, .slice A_h n_h c_h, .int .i64 h.lo.e]) h.lo ∧ RdD W.toWorld (.agg #[.bool h.hi.neg, .slice B_h m_h k_h, .int .i64 h.hi.e]) h.hi ∧ HullI l i h) [.int .i64 0, .bool false, .bool x1.lo.neg, .slice A_L1 n_L1 c_L1, .int .i64 x1.lo.e, .bool x1.hi.neg, .slice B_L1 m_L1 k_L1, .int .i64 x1.hi.e] (by kernel_rfl) (fun w1 h1 => ⟨_, 0, x1, _, _, _, _, _, _, rfl, rfl, Nat.zero_le _, h1.rdD r_L1l, h1.rdD r_L1h, HullI.start h_x1⟩) ?_
      rintro k vs w2 h2 ⟨i, h, A_h, n_h, c_h, B_h, m_h, k_h, rfl, rfl, hi, r_hl, r_hh, HU⟩
      clear r_L1l r_L1h
      replace F_l := F_l.mv h2.mv
      refine sat_prim (v := .int .i64 ((l.length : Nat) : Int)) (by kernel_rfl) ?_
      refine sat_prim (v := .bool (decide ((((i : Nat) : Int) : Int) < ((l.length : Nat) : Int)))) (by kernel_rfl) ?_
      cases hlt : (decide ((((i : Nat) : Int) : Int) < ((l.length : Nat) : Int)))
      · refine sat_false (by kernel_rfl) ?_
        refine sat_loop (fun k vs W => ∃ (j : Nat) (lo hi : Bool), vs = [.int .i64 ((j : Nat) : Int), .bool hi, .bool lo, .bool false, .bool h.lo.neg, .slice A_h n_h c_h, .int .i64 h.lo.e, .bool h.hi.neg, .slice B_h m_h k_h, .int .i64 h.hi.e] ∧ k = l.length - j ∧ j ≤ l.length ∧ (lo = (l.take j).any fun y => sameD y.lo h.lo) ∧ (hi = (l.take j).any fun y => sameD y.hi h.hi)) [.int .i64 0, .bool false, .bool false, .bool false, .bool h.lo.neg, .slice A_h n_h c_h, .int .i64 h.lo.e, .bool h.hi.neg, .slice B_h m_h k_h, .int .i64 h.hi.e] (by kernel_rfl) (fun w1 h1 => ⟨_, 0, false, false, rfl, rfl, Nat.zero_le _, rfl, rfl⟩) ?_
        rintro k vs w2 h2 ⟨j, lo, hi, rfl, rfl, hj, e_lo, e_hi⟩
        replace F_l := F_l.mv h2.mv; replace r_hl := h2.rdD r_hl; replace r_hh := h2.rdD r_hh
        refine sat_prim (v := .int .i64 ((l.length : Nat) : Int)) (by kernel_rfl) ?_
        refine sat_prim (v := .bool (decide ((((j : Nat) : Int) : Int) < ((l.length : Nat) : Int)))) (by kernel_rfl) ?_
        cases hlt2 : (decide ((((j : Nat) : Int) : Int) < ((l.length : Nat) : Int)))
        · refine sat_false (by kernel_rfl) ?_
          refine sat_call #[] (by kernel_rfl) fun w6 h6 => ?_
          refine (told5_any _ (h6.tab hT)).mono ?_
          rintro e v6 ⟨rfl, hb6⟩
          refine ⟨hb6, [.bool true], _, rfl, by kernel_rfl, by kernel_rfl, fun g6 => ?_⟩
          replace F_l := F_l.mv g6.mv; replace r_hl := g6.rdD r_hl; replace r_hh := g6.rdD r_hh
          clear h6 hb6
          refine sat_true (by kernel_rfl) ?_
          refine sat_trueP (b := lo) (by kernel_rfl) (any_lo e_lo hlt2 HU.el) ?_
          exact sat_ret (.bool hi) (by kernel_rfl) fun w9 h9 => congrArg Value.bool (any_hi e_hi hlt2 HU.eh)
        · refine sat_true (by kernel_rfl) ?_
          refine sat_idx (A := A_l) (c := c_l) (kk := .i64) (j) (by kernel_rfl) (by kernel_rfl) (lt_of hlt2) F_l.addr fun g6 o6 e6 => ?_
          obtain ⟨x2, h_x2⟩ : ∃ x, l[(j)]? = some x := ⟨_, List.getElem?_eq_getElem (lt_of hlt2)⟩
          refine sat_el F_l e6 h_x2 rfl (by kernel_rfl) (by kernel_rfl) (by kernel_rfl) ?_
          rintro _ ⟨A_L2, n_L2, c_L2, B_L2, m_L2, k_L2, rfl, r_L2l, r_L2h⟩
          refine sat_call #[.agg #[.bool x2.lo.neg, .slice A_L2 n_L2 c_L2, .int .i64 x2.lo.e, .bool x2.hi.neg, .slice B_L2 m_L2 k_L2, .int .i64 x2.hi.e], .agg #[.bool h.lo.neg, .slice A_h n_h c_h, .int .i64 h.lo.e, .bool h.hi.neg, .slice B_h m_h k_h, .int .i64 h.hi.e]] (by kernel_rfl) fun w7 h7 => ?_
          refine (withinI_any _ _ x2 h _ (mkI (h7.rdD r_L2l) (h7.rdD r_L2h)) (mkI (h7.rdD r_hl) (h7.rdD r_hh))).mono ?_
          rintro e v7 ⟨rfl, hb7⟩
          refine ⟨hb7, [.bool (withinI x2 h)], _, rfl, by kernel_rfl, by kernel_rfl, fun g7 => ?_⟩
          replace F_l := F_l.mv g7.mv; replace r_hl := g7.rdD r_hl; replace r_hh := g7.rdD r_hh; replace r_L2l := g7.rdD r_L2l; replace r_L2h := g7.rdD r_L2h
          clear h7 hb7
          refine sat_prim (v := .bool (!(withinI x2 h))) (by kernel_rfl) ?_
          refine sat_falseP (b := (!(withinI x2 h))) (by kernel_rfl) (by rw [show (withinI x2 h) = true from HU.within hlt h_x2]; rfl) ?_
          cases hlo : (lo)
          · refine sat_false (by kernel_rfl) ?_
            refine sat_idx (A := A_l) (c := c_l) (kk := .i64) (j) (by kernel_rfl) (by kernel_rfl) (lt_of hlt2) F_l.addr fun g9 o9 e9 => ?_
            refine sat_prim (v := .pointer (some ⟨g9, o9 + (j) * 6 + 0, none⟩)) (by kernel_rfl) ?_
            refine sat_elf (d := 0) (m := 3) F_l e9 h_x2 rfl (by decide) (by kernel_rfl) (by kernel_rfl) (by kernel_rfl) ?_
            rintro _ ⟨A_L3, n_L3, c_L3, B_L3, m_L3, k_L3, rfl, r_L3l, r_L3h⟩
            clear r_L3h
            refine sat_call #[.agg #[.bool x2.lo.neg, .slice A_L3 n_L3 c_L3, .int .i64 x2.lo.e], .agg #[.bool h.lo.neg, .slice A_h n_h c_h, .int .i64 h.lo.e]] (by kernel_rfl) fun w10 h10 => ?_
            refine (sameD_any _ _ (x2.lo) (h.lo) _ (h10.rdD r_L3l) (h10.rdD r_hl)).mono ?_
            rintro e v10 ⟨rfl, hb10⟩
            refine ⟨hb10, [.bool (sameD x2.lo h.lo)], _, rfl, by kernel_rfl, by kernel_rfl, fun g10 => ?_⟩
            replace F_l := F_l.mv g10.mv; replace r_hl := g10.rdD r_hl; replace r_hh := g10.rdD r_hh; replace r_L2l := g10.rdD r_L2l; replace r_L2h := g10.rdD r_L2h; replace r_L3l := g10.rdD r_L3l
            clear h10 hb10
            cases hhi : (hi)
            · refine sat_false (by kernel_rfl) ?_
              refine sat_idx (A := A_l) (c := c_l) (kk := .i64) (j) (by kernel_rfl) (by kernel_rfl) (lt_of hlt2) F_l.addr fun g12 o12 e12 => ?_
              refine sat_prim (v := .pointer (some ⟨g12, o12 + (j) * 6 + 3, none⟩)) (by kernel_rfl) ?_
              refine sat_elf (d := 3) (m := 3) F_l e12 h_x2 rfl (by decide) (by kernel_rfl) (by kernel_rfl) (by kernel_rfl) ?_
              rintro _ ⟨A_L4, n_L4, c_L4, B_L4, m_L4, k_L4, rfl, r_L4l, r_L4h⟩
              clear r_L4l
              refine sat_call #[.agg #[.bool x2.hi.neg, .slice B_L4 m_L4 k_L4, .int .i64 x2.hi.e], .agg #[.bool h.hi.neg, .slice B_h m_h k_h, .int .i64 h.hi.e]] (by kernel_rfl) fun w13 h13 => ?_
              refine (sameD_any _ _ (x2.hi) (h.hi) _ (h13.rdD r_L4h) (h13.rdD r_hh)).mono ?_
              rintro e v13 ⟨rfl, hb13⟩
              refine ⟨hb13, [.bool (sameD x2.hi h.hi)], _, rfl, by kernel_rfl, by kernel_rfl, fun g13 => ?_⟩
              replace F_l := F_l.mv g13.mv; replace r_hl := g13.rdD r_hl; replace r_hh := g13.rdD r_hh; replace r_L2l := g13.rdD r_L2l; replace r_L2h := g13.rdD r_L2h; replace r_L3l := g13.rdD r_L3l; replace r_L4h := g13.rdD r_L4h
              clear h13 hb13
              refine sat_prim (v := .int .i64 (((j + 1 : Nat)) : Int)) (Eq.trans (b := some (.int .i64 (IntKind.i64.wrap ((((j) : Nat) : Int) + 1)))) (by kernel_rfl) (by rw [Sx.wrap_succ (n := l.length) (lt_of hlt2) M_l])) ?_
              exact sat_back [.int .i64 (((j + 1 : Nat)) : Int), .bool (sameD x2.hi h.hi), .bool (sameD x2.lo h.lo), .bool false, .bool h.lo.neg, .slice A_h n_h c_h, .int .i64 h.lo.e, .bool h.hi.neg, .slice B_h m_h k_h, .int .i64 h.hi.e] (by kernel_rfl) fun w9 h9 => ⟨_, by have := lt_of hlt2; omega, j + 1, _, _, rfl, rfl, by have := lt_of hlt2; omega, by rw [any_succ h_x2, ← e_lo, hlo]; rfl, by rw [any_succ h_x2, ← e_hi, hhi]; rfl⟩
            · refine sat_true (by kernel_rfl) ?_
              refine sat_prim (v := .int .i64 (((j + 1 : Nat)) : Int)) (Eq.trans (b := some (.int .i64 (IntKind.i64.wrap ((((j) : Nat) : Int) + 1)))) (by kernel_rfl) (by rw [Sx.wrap_succ (n := l.length) (lt_of hlt2) M_l])) ?_
              exact sat_back [.int .i64 (((j + 1 : Nat)) : Int), .bool true, .bool (sameD x2.lo h.lo), .bool false, .bool h.lo.neg, .slice A_h n_h c_h, .int .i64 h.lo.e, .bool h.hi.neg, .slice B_h m_h k_h, .int .i64 h.hi.e] (by kernel_rfl) fun w9 h9 => ⟨_, by have := lt_of hlt2; omega, j + 1, _, _, rfl, rfl, by have := lt_of hlt2; omega, by rw [any_succ h_x2, ← e_lo, hlo]; rfl, by rw [any_succ h_x2, ← e_hi, hhi]; rfl⟩
          · refine sat_true (by kernel_rfl) ?_
            cases hhi : (hi)
            · refine sat_false (by kernel_rfl) ?_
              refine sat_idx (A := A_l) (c := c_l) (kk := .i64) (j) (by kernel_rfl) (by kernel_rfl) (lt_of hlt2) F_l.addr fun g10 o10 e10 => ?_
              refine sat_prim (v := .pointer (some ⟨g10, o10 + (j) * 6 + 3, none⟩)) (by kernel_rfl) ?_
              refine sat_elf (d := 3) (m := 3) F_l e10 h_x2 rfl (by decide) (by kernel_rfl) (by kernel_rfl) (by kernel_rfl) ?_
              rintro _ ⟨A_L3, n_L3, c_L3, B_L3, m_L3, k_L3, rfl, r_L3l, r_L3h⟩
              clear r_L3l
              refine sat_call #[.agg #[.bool x2.hi.neg, .slice B_L3 m_L3 k_L3, .int .i64 x2.hi.e], .agg #[.bool h.hi.neg, .slice B_h m_h k_h, .int .i64 h.hi.e]] (by kernel_rfl) fun w11 h11 => ?_
              refine (sameD_any _ _ (x2.hi) (h.hi) _ (h11.rdD r_L3h) (h11.rdD r_hh)).mono ?_
              rintro e v11 ⟨rfl, hb11⟩
              refine ⟨hb11, [.bool (sameD x2.hi h.hi)], _, rfl, by kernel_rfl, by kernel_rfl, fun g11 => ?_⟩
              replace F_l := F_l.mv g11.mv; replace r_hl := g11.rdD r_hl; replace r_hh := g11.rdD r_hh; replace r_L2l := g11.rdD r_L2l; replace r_L2h := g11.rdD r_L2h; replace r_L3h := g11.rdD r_L3h
              clear h11 hb11
              refine sat_prim (v := .int .i64 (((j + 1 : Nat)) : Int)) (Eq.trans (b := some (.int .i64 (IntKind.i64.wrap ((((j) : Nat) : Int) + 1)))) (by kernel_rfl) (by rw [Sx.wrap_succ (n := l.length) (lt_of hlt2) M_l])) ?_
              exact sat_back [.int .i64 (((j + 1 : Nat)) : Int), .bool (sameD x2.hi h.hi), .bool true, .bool false, .bool h.lo.neg, .slice A_h n_h c_h, .int .i64 h.lo.e, .bool h.hi.neg, .slice B_h m_h k_h, .int .i64 h.hi.e] (by kernel_rfl) fun w9 h9 => ⟨_, by have := lt_of hlt2; omega, j + 1, _, _, rfl, rfl, by have := lt_of hlt2; omega, by rw [any_succ h_x2, ← e_lo, hlo]; rfl, by rw [any_succ h_x2, ← e_hi, hhi]; rfl⟩
            · refine sat_true (by kernel_rfl) ?_
              refine sat_prim (v := .int .i64 (((j + 1 : Nat)) : Int)) (Eq.trans (b := some (.int .i64 (IntKind.i64.wrap ((((j) : Nat) : Int) + 1)))) (by kernel_rfl) (by rw [Sx.wrap_succ (n := l.length) (lt_of hlt2) M_l])) ?_
              exact sat_back [.int .i64 (((j + 1 : Nat)) : Int), .bool true, .bool true, .bool false, .bool h.lo.neg, .slice A_h n_h c_h, .int .i64 h.lo.e, .bool h.hi.neg, .slice B_h m_h k_h, .int .i64 h.hi.e] (by kernel_rfl) fun w9 h9 => ⟨_, by have := lt_of hlt2; omega, j + 1, _, _, rfl, rfl, by have := lt_of hlt2; omega, by rw [any_succ h_x2, ← e_lo, hlo]; rfl, by rw [any_succ h_x2, ← e_hi, hhi]; rfl⟩
      · refine sat_true (by kernel_rfl) ?_
        refine sat_idx (A := A_l) (c := c_l) (kk := .i64) (i) (by kernel_rfl) (by kernel_rfl) (lt_of hlt) F_l.addr fun g5 o5 e5 => ?_
        obtain ⟨x2, h_x2⟩ : ∃ x, l[(i)]? = some x := ⟨_, List.getElem?_eq_getElem (lt_of hlt)⟩
        refine sat_el F_l e5 h_x2 rfl (by kernel_rfl) (by kernel_rfl) (by kernel_rfl) ?_
        rintro _ ⟨A_L2, n_L2, c_L2, B_L2, m_L2, k_L2, rfl, r_L2l, r_L2h⟩
        refine sat_call #[.agg #[.bool x2.lo.neg, .slice A_L2 n_L2 c_L2, .int .i64 x2.lo.e, .bool x2.hi.neg, .slice B_L2 m_L2 k_L2, .int .i64 x2.hi.e]] (by kernel_rfl) fun w6 h6 => ?_
        refine (few5_any _ x2 _ (mkI (h6.rdD r_L2l) (h6.rdD r_L2h))).mono ?_
        rintro e v6 ⟨rfl, hb6⟩
        refine ⟨hb6, [.bool (fewI x2)], _, rfl, by kernel_rfl, by kernel_rfl, fun g6 => ?_⟩
        replace F_l := F_l.mv g6.mv; replace r_hl := g6.rdD r_hl; replace r_hh := g6.rdD r_hh; replace r_L2l := g6.rdD r_L2l; replace r_L2h := g6.rdD r_L2h
        clear h6 hb6
        refine sat_prim (v := .bool (!(fewI x2))) (by kernel_rfl) ?_
        cases hf : (fewI x2)
        · refine sat_true (by kernel_rfl) ?_
          refine sat_call #[] (by kernel_rfl) fun w8 h8 => ?_
          refine (told5_any _ (h8.tab hT)).mono ?_
          rintro e v8 ⟨rfl, hb8⟩
          refine ⟨hb8, [.bool true], _, rfl, by kernel_rfl, by kernel_rfl, fun g8 => ?_⟩
          replace F_l := F_l.mv g8.mv; replace r_hl := g8.rdD r_hl; replace r_hh := g8.rdD r_hh; replace r_L2l := g8.rdD r_L2l; replace r_L2h := g8.rdD r_L2h
          clear h8 hb8
          exact sat_ret (.bool true) (by kernel_rfl) fun w9 h9 => rfl
        · refine sat_false (by kernel_rfl) ?_
          refine sat_idx (A := A_l) (c := c_l) (kk := .i64) (i) (by kernel_rfl) (by kernel_rfl) (lt_of hlt) F_l.addr fun g8 o8 e8 => ?_
          refine sat_el F_l e8 h_x2 rfl (by kernel_rfl) (by kernel_rfl) (by kernel_rfl) ?_
          rintro _ ⟨A_L3, n_L3, c_L3, B_L3, m_L3, k_L3, rfl, r_L3l, r_L3h⟩
          refine sat_call #[.agg #[.bool x2.lo.neg, .slice A_L3 n_L3 c_L3, .int .i64 x2.lo.e, .bool x2.hi.neg, .slice B_L3 m_L3 k_L3, .int .i64 x2.hi.e]] (by kernel_rfl) fun w9 h9 => ?_
          refine (mayI_any _ x2 _ (mkI (h9.rdD r_L3l) (h9.rdD r_L3h))).mono ?_
          rintro e v9 ⟨rfl, hb9⟩
          refine ⟨hb9, [.bool (mayI x2)], _, rfl, by kernel_rfl, by kernel_rfl, fun g9 => ?_⟩
          replace F_l := F_l.mv g9.mv; replace r_hl := g9.rdD r_hl; replace r_hh := g9.rdD r_hh; replace r_L2l := g9.rdD r_L2l; replace r_L2h := g9.rdD r_L2h; replace r_L3l := g9.rdD r_L3l; replace r_L3h := g9.rdD r_L3h
          clear h9 hb9
          refine sat_prim (v := .bool (!(mayI x2))) (by kernel_rfl) ?_
          cases hm : (mayI x2)
          · refine sat_true (by kernel_rfl) ?_
            refine sat_call #[] (by kernel_rfl) fun w11 h11 => ?_
            refine (told5_any _ (h11.tab hT)).mono ?_
            rintro e v11 ⟨rfl, hb11⟩
            refine ⟨hb11, [.bool true], _, rfl, by kernel_rfl, by kernel_rfl, fun g11 => ?_⟩
            replace F_l := F_l.mv g11.mv; replace r_hl := g11.rdD r_hl; replace r_hh := g11.rdD r_hh; replace r_L2l := g11.rdD r_L2l; replace r_L2h := g11.rdD r_L2h; replace r_L3l := g11.rdD r_L3l; replace r_L3h := g11.rdD r_L3h
            clear h11 hb11
            exact sat_ret (.bool true) (by kernel_rfl) fun w9 h9 => rfl
          · refine sat_false (by kernel_rfl) ?_
            refine sat_idx (A := A_l) (c := c_l) (kk := .i64) (i) (by kernel_rfl) (by kernel_rfl) (lt_of hlt) F_l.addr fun g11 o11 e11 => ?_
            refine sat_el F_l e11 h_x2 rfl (by kernel_rfl) (by kernel_rfl) (by kernel_rfl) ?_
            rintro _ ⟨A_L4, n_L4, c_L4, B_L4, m_L4, k_L4, rfl, r_L4l, r_L4h⟩
            refine sat_call #[.agg #[.bool h.lo.neg, .slice A_h n_h c_h, .int .i64 h.lo.e, .bool h.hi.neg, .slice B_h m_h k_h, .int .i64 h.hi.e], .agg #[.bool x2.lo.neg, .slice A_L4 n_L4 c_L4, .int .i64 x2.lo.e, .bool x2.hi.neg, .slice B_L4 m_L4 k_L4, .int .i64 x2.hi.e]] (by kernel_rfl) fun w12 h12 => ?_
            refine (hullI_any _ _ h x2 _ (mkI (h12.rdD r_hl) (h12.rdD r_hh)) (mkI (h12.rdD r_L4l) (h12.rdD r_L4h))).mono ?_
            rintro e v12 ⟨⟨l_u1, g_u1, x_u1, A_u1, n_u1, c_u1, B_u1, m_u1, k_u1, h_u1, rfl, r_u1l, r_u1h⟩, hb12⟩
            obtain ⟨rfl, rfl, rfl⟩ := iv3 h_u1 (hull_yes' (HU.mayH h_x2 hm) hm)
            refine ⟨hb12, [.bool (leastD h.lo x2.lo).neg, .slice A_u1 n_u1 c_u1, .int .i64 (leastD h.lo x2.lo).e, .bool (greatestD h.hi x2.hi).neg, .slice B_u1 m_u1 k_u1, .int .i64 (greatestD h.hi x2.hi).e, .int .i64 0], _, rfl, by kernel_rfl, by kernel_rfl, fun g12 => ?_⟩
            replace F_l := F_l.mv g12.mv; replace r_hl := g12.rdD r_hl; replace r_hh := g12.rdD r_hh; replace r_L2l := g12.rdD r_L2l; replace r_L2h := g12.rdD r_L2h; replace r_L3l := g12.rdD r_L3l; replace r_L3h := g12.rdD r_L3h; replace r_L4l := g12.rdD r_L4l; replace r_L4h := g12.rdD r_L4h
            clear h12 hb12
            refine sat_chkB (by kernel_rfl) ?_
            refine sat_prim (v := .bool false) (by kernel_rfl) ?_
            refine sat_false (by kernel_rfl) ?_
            refine sat_chkB (by kernel_rfl) ?_
            refine sat_prim (v := .int .i64 (((i + 1 : Nat)) : Int)) (Eq.trans (b := some (.int .i64 (IntKind.i64.wrap ((((i) : Nat) : Int) + 1)))) (by kernel_rfl) (by rw [Sx.wrap_succ (n := l.length) (lt_of hlt) M_l])) ?_
            exact sat_back [.int .i64 (((i + 1 : Nat)) : Int), .bool false, .bool (leastD h.lo x2.lo).neg, .slice A_u1 n_u1 c_u1, .int .i64 (leastD h.lo x2.lo).e, .bool (greatestD h.hi x2.hi).neg, .slice B_u1 m_u1 k_u1, .int .i64 (greatestD h.hi x2.hi).e] (by kernel_rfl) fun w9 h9 => ⟨_, by have := lt_of hlt; omega, i + 1, ⟨leastD h.lo x2.lo, greatestD h.hi x2.hi⟩, _, _, _, _, _, _, rfl, rfl, by have := lt_of hlt; omega, h9.rdD r_u1l, h9.rdD r_u1h, HU.step h_x2 hm HL r_hl.lim r_hh.lim⟩
    · refine sat_true (by kernel_rfl) ?_
      refine sat_call #[] (by kernel_rfl) fun w3 h3 => ?_
      refine (told5_any _ (h3.tab hT)).mono ?_
      rintro e v3 ⟨rfl, hb3⟩
      refine ⟨hb3, [.bool true], _, rfl, by kernel_rfl, by kernel_rfl, fun g3 => ?_⟩
      replace F_l := F_l.mv g3.mv
      clear h3 hb3
      exact sat_ret (.bool true) (by kernel_rfl) fun w9 h9 => rfl
  · refine sat_true (by kernel_rfl) ?_
    refine sat_call #[] (by kernel_rfl) fun w2 h2 => ?_
    refine (told5_any _ (h2.tab hT)).mono ?_
    rintro e v2 ⟨rfl, hb2⟩
    refine ⟨hb2, [.bool true], _, rfl, by kernel_rfl, by kernel_rfl, fun g2 => ?_⟩
    replace F_l := F_l.mv g2.mv
    clear h2 hb2
    exact sat_ret (.bool true) (by kernel_rfl) fun w9 h9 => rfl

end Go.Proofs.YteodljieiloebaaDoor
