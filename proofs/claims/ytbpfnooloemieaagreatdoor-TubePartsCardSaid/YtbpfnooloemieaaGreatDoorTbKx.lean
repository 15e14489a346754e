/- tube.Width, ref11's Halve, Cut, WidthTube, InsideTube, WithinTube; the walk of TubeParts; by their trees. Printed by wip/mk_TbK.py. -/
import Derived.Test.YtbpfnooloemieaaGreatDoorTbRx
import Derived.Test.YtbpfnooloemieaaGreatDoorTbQx
import Derived.Test.YtbpfnooloemieaaGreatDoorBxCx
import Derived.Test.YtbpfnooloemieaaGreatDoorL2Gx
namespace Go.Proofs.YtbpfnooloemieaaGreatDoor
open Go.RowKit Pl
open Sx (sat_call sat_chk sat_prim sat_ite sat_true sat_false sat_trueP sat_falseP sat_ret sat_row sat_callP sat_loop sat_back sat_idx sat_el sat_elf sat_elc sat_load sat_rowN sat_app sat_callB sat_alt rows_one rows_two all_nil all_cons okB okS okI)

def widthT (t : Tb) : Dy × Int := bif mayT t then widthA Dy.zero t.v else (Dy.zero, 1)
theorem widthT_B {t : Tb} (h : mayT t = true) : widthB t.v = widthT t := by unfold widthT widthB; rw [h, (MayT.of h).may]
theorem widthT_no {t : Tb} (h : mayT t = false) : (Dy.zero, (1 : Int)) = widthT t := by unfold widthT; rw [h]; rfl
theorem widthT_yes {t : Tb} (h : mayT t = true) : widthT t = widthA Dy.zero t.v := by unfold widthT; rw [h]; rfl
theorem widthT_bad {t : Tb} {m d : Dy} {x : Int} {i : Nat} {a : Iv} (hm : widthT t = widthA m (t.v.drop i)) (hx : t.v[i]? = some a) (e : Hid ((d, x) = widthI a)) (hz : ((x : Int) != 0) = true) : (Dy.zero, x) = widthT t := by rw [hm, widthA_cons hx, ← e.out, hz]; rfl
theorem widthT_step {t : Tb} {m d : Dy} {x : Int} {i : Nat} {a : Iv} {b : Bool} (hm : widthT t = widthA m (t.v.drop i)) (hx : t.v[i]? = some a) (e : Hid ((d, x) = widthI a)) (hz : ((x : Int) != 0) = false) (hb : decide ((0 : Int) < cmpD d m) = b) : widthT t = widthA (bif b then d else m) (t.v.drop (i + 1)) := by rw [hm, widthA_cons hx, ← e.out, hz, hb]; rfl
theorem widthT_end {t : Tb} {m : Dy} {i : Nat} (hm : widthT t = widthA m (t.v.drop i)) (hlt : decide ((i : Int) < (t.v.length : Int)) = false) : (m, (0 : Int)) = widthT t := by rw [hm, drop_end hlt]; rfl
def fS (st : Bool) (x y : Iv) : Bool := bif st then insideI x y else withinI x y
/-- All pairs ahead of a place are as they should be. -/
def Cel (st : Bool) (a b : Tb) (i k : Nat) : Prop := ∀ (i' k' : Nat) x y, a.v[i']? = some x → b.v[k']? = some y → (i' < i ∨ (i' = i ∧ k' < k)) → ZT a i' < ZT b (k' + 1) → ZT b k' < ZT a (i' + 1) → fS st x y = true
theorem Cel.start {st : Bool} {a b : Tb} : Cel st a b 0 0 := fun i' k' x y _ _ h => by omega
theorem Cel.next {st : Bool} {a b : Tb} {i k : Nat} (h : Cel st a b i k) (hk : decide ((k : Int) < (b.v.length : Int)) = false) : Cel st a b (i + 1) 0 := fun i' k' x y hx hy hl => by
  have := of_decide_eq_false hk
  have := get_lt hy
  exact h i' k' x y hx hy (by omega)
theorem Cel.skip1 {st : Bool} {a b : Tb} {i k : Nat} {p q : Dy} (h : Cel st a b i k) (A : OkT a) (B : OkT b) (hi : i < a.v.length) (hk : k < b.v.length) (hp : a.at_[i]? = some p) (hq : b.at_[k + 1]? = some q) (hc : decide (cmpD p q < 0) = false) : Cel st a b i (k + 1) := fun i' k' x y hx hy hl o1 o2 => by
  by_cases hkk : i' = i ∧ k' = k
  · obtain ⟨rfl, rfl⟩ := hkk
    have g1 : GD p := atT_is hp ▸ A.gd i' (by omega)
    have g2 : GD q := atT_is hq ▸ B.gd (k' + 1) (by omega)
    refine absurd ((g1.lt g2).2 ?_) (of_decide_eq_false hc)
    rw [← atT_is hp, ← atT_is hq]
    exact o1
  · exact h i' k' x y hx hy (by omega) o1 o2
theorem Cel.skip2 {st : Bool} {a b : Tb} {i k : Nat} {p q : Dy} (h : Cel st a b i k) (A : OkT a) (B : OkT b) (hi : i < a.v.length) (hk : k < b.v.length) (hp : b.at_[k]? = some p) (hq : a.at_[i + 1]? = some q) (hc : decide (cmpD p q < 0) = false) : Cel st a b i (k + 1) := fun i' k' x y hx hy hl o1 o2 => by
  by_cases hkk : i' = i ∧ k' = k
  · obtain ⟨rfl, rfl⟩ := hkk
    have g1 : GD p := atT_is hp ▸ B.gd k' (by omega)
    have g2 : GD q := atT_is hq ▸ A.gd (i' + 1) (by omega)
    refine absurd ((g1.lt g2).2 ?_) (of_decide_eq_false hc)
    rw [← atT_is hp, ← atT_is hq]
    exact o2
  · exact h i' k' x y hx hy (by omega) o1 o2
theorem Cel.step {st : Bool} {a b : Tb} {i k : Nat} {x y : Iv} (h : Cel st a b i k) (hx : a.v[i]? = some x) (hy : b.v[k]? = some y) (hf : fS st x y = true) : Cel st a b i (k + 1) := fun i' k' u v hu hv hl o1 o2 => by
  by_cases hkk : i' = i ∧ k' = k
  · obtain ⟨rfl, rfl⟩ := hkk
    obtain rfl := Option.some.inj (hx.symm.trans hu)
    obtain rfl := Option.some.inj (hy.symm.trans hv)
    exact hf
  · exact h i' k' u v hu hv (by omega) o1 o2
structure Two (a b : Tb) : Prop where
  A : OkT a
  B : OkT b
  la : LimT a
  lb : LimT b
  z0 : ZT a 0 = ZT b 0
  z1 : ZT a a.v.length = ZT b b.v.length
theorem Two.mk' {a b : Tb} {p q r s : Dy} (hMa : mayT a = true) (hMb : mayT b = true) (la : LimT a) (lb : LimT b) (hp : a.at_[0]? = some p) (hq : b.at_[0]? = some q) (hr : a.at_[a.v.length]? = some r) (hs : b.at_[b.v.length]? = some s) (hF : (cmpD p q != 0) = false) (hL : (cmpD r s != 0) = false) : Two a b := by
  have A := OkT.of hMa la
  have B := OkT.of hMb lb
  have g1 := A.gd 0 (Nat.zero_le _)
  have g2 := B.gd 0 (Nat.zero_le _)
  have g3 := A.gd _ (Nat.le_refl _)
  have g4 := B.gd _ (Nat.le_refl _)
  refine ⟨A, B, la, lb, ?_, ?_⟩
  · rw [atT_is hp] at g1
    rw [atT_is hq] at g2
    show ZD (atT a.at_ 0) = ZD (atT b.at_ 0)
    rw [atT_is hp, atT_is hq]
    exact (ne0 g1 g2).1 hF
  · rw [atT_is hr] at g3
    rw [atT_is hs] at g4
    show ZD (atT a.at_ a.v.length) = ZD (atT b.at_ b.v.length)
    rw [atT_is hr, atT_is hs]
    exact (ne0 g3 g4).1 hL
theorem Two.done {st : Bool} {a b : Tb} {i : Nat} (T : Two a b) (h : Cel st a b i 0) (hi : decide ((i : Int) < (a.v.length : Int)) = false) : true = besideT (fS st) a b := by
  symm
  refine (beside_iff T.la T.lb).2 ⟨T.A, T.B, T.z0, T.z1, fun i' k' x y hx hy o1 o2 => h i' k' x y hx hy ?_ o1 o2⟩
  have := of_decide_eq_false hi
  have := get_lt hx
  omega
theorem Two.bad {st : Bool} {a b : Tb} {i k : Nat} {x y : Iv} {p q r s : Dy} (T : Two a b) (hx : a.v[i]? = some x) (hy : b.v[k]? = some y) (hp : a.at_[i]? = some p) (hq : b.at_[k + 1]? = some q) (hr : b.at_[k]? = some r) (hs : a.at_[i + 1]? = some s) (hc1 : decide (cmpD p q < 0) = true) (hc2 : decide (cmpD r s < 0) = true) (hf : fS st x y = false) : false = besideT (fS st) a b := by
  symm
  cases h : besideT (fS st) a b with
  | false => rfl
  | true =>
    obtain ⟨A, B, _, _, hall⟩ := (beside_iff T.la T.lb).1 h
    have li := get_lt hx
    have lk := get_lt hy
    have g1 : GD p := atT_is hp ▸ A.gd i (by omega)
    have g2 : GD q := atT_is hq ▸ B.gd (k + 1) (by omega)
    have g3 : GD r := atT_is hr ▸ B.gd k (by omega)
    have g4 : GD s := atT_is hs ▸ A.gd (i + 1) (by omega)
    have o1 := (g1.lt g2).1 (of_decide_eq_true hc1)
    have o2 := (g3.lt g4).1 (of_decide_eq_true hc2)
    rw [← atT_is hp, ← atT_is hq] at o1
    rw [← atT_is hr, ← atT_is hs] at o2
    rw [hall i k x y hx hy o1 o2] at hf
    cases hf
theorem Two.inw {a b : Tb} {i k : Nat} {x y : Iv} (T : Two a b) (hx : a.v[i]? = some x) (hy : b.v[k]? = some y) (h : insideI x y = true) : withinI x y = true := by
  obtain ⟨_, gx, _⟩ := T.A.cells i x hx
  obtain ⟨_, gy, _⟩ := T.B.cells k y hy
  obtain ⟨h1, h2, h3, h4⟩ := (gx.inside gy).1 h
  exact (gx.within gy).2 ⟨h1, h2, by omega, by omega⟩

def tr_twidth : Sx.Tree := .chk [.lf 0, .lf 1] (.call 67 [.ag [.lf 0, .lf 1]] .one (.prim .not [.lf 2] (.ite (.lf 3) (.ret (.tup [(true, [.bit false, .nil, .num .i64 0]), (false, [.num .i64 1])])) (.prim .len [.lf 1] (.loop 0 [.num .i64 0, .num .i64 0, .bit false, .nil, .num .i64 0] (.prim (.bin .lss) [.lf 5, .lf 4] (.ite (.lf 10) (.prim (.idx 6) [.lf 1, .lf 5] (.load 49 (.lf 11) (.ag 6) (.chk [.lf 12, .lf 13, .lf 14, .lf 15, .lf 16, .lf 17] (.call 46 [.ag [.lf 12, .lf 13, .lf 14, .lf 15, .lf 16, .lf 17]] (.tup [(true, 3), (false, 1)]) (.chk [.lf 18, .lf 19, .lf 20] (.prim (.bin .neq) [.lf 21, .num .i64 0] (.ite (.lf 22) (.ret (.tup [(true, [.bit false, .nil, .num .i64 0]), (false, [.lf 21])])) (.call 47 [.ag [.lf 18, .lf 19, .lf 20], .ag [.lf 7, .lf 8, .lf 9]] .one (.prim (.bin .gtr) [.lf 23, .num .i64 0] (.ite (.lf 24) (.chk [.lf 18, .lf 19, .lf 20] (.prim (.bin .add) [.lf 5, .num .i64 1] (.back 0 [.lf 25, .lf 6, .lf 18, .lf 19, .lf 20]))) (.prim (.bin .add) [.lf 5, .num .i64 1] (.back 0 [.lf 25, .lf 6, .lf 7, .lf 8, .lf 9])))))))))))) (.chk [.lf 7, .lf 8, .lf 9] (.ret (.tup [(true, [.lf 7, .lf 8, .lf 9]), (false, [.num .i64 0])]))))))))))
theorem tr_twidth_eq : Sx.treeAt Tryz.prog 31 [] [2] [(true, 2)] = some tr_twidth := by kernel_rfl

theorem widthT_any (A_t : Option Addr) (c_t : Nat) (B_t : Option Addr) (d_t : Nat) (t : Tb) (w : World) (h_t1 : Sx.Rows Sx.kD (fun _ => True) w A_t t.at_.length c_t t.at_) (h_t2 : Sx.Rows Sx.kI (fun _ => True) w B_t t.v.length d_t t.v) (hT : TabAt w) :
    Calls Tryz.prog 31 #[.agg #[.slice A_t t.at_.length c_t, .slice B_t t.v.length d_t]] w fun e w' => DyTup w' e (widthT t) ∧ Below w.heap.size w w' := by
  have F_t1 := h_t1.start
  have M_t1 := h_t1.le
  clear h_t1
  have F_t2 := h_t2.start
  have M_t2 := h_t2.le
  clear h_t2
  refine (Sx.runA [] [2] (ls := [.slice A_t t.at_.length c_t, .slice B_t t.v.length d_t]) (shs := [(true, 2)]) (R := fun v w' => DyTup w' (.returned v) (widthT t)) tr_twidth_eq rfl (by decide) (fun q h => by cases h) ?_).mono (fun e w' ⟨v, he, hv, hb⟩ => ⟨by rw [he]; exact hv, hb⟩)
  unfold tr_twidth
  refine sat_chkB (by kernel_rfl) ?_
  refine sat_call #[.agg #[.slice A_t t.at_.length c_t, .slice B_t t.v.length d_t]] (by kernel_rfl) fun w1 h1 => ?_
  refine (mayT_any _ _ _ _ t _ ((F_t1.mv h1.mv).any) ((F_t2.mv h1.mv).any)).mono ?_
  rintro e v1 ⟨rfl, hb1⟩
  refine ⟨hb1, [.bool (mayT t)], _, rfl, by kernel_rfl, by kernel_rfl, fun g1 => ?_⟩
  replace F_t1 := F_t1.mv g1.mv; replace F_t2 := F_t2.mv g1.mv
  clear h1 hb1
  refine sat_prim (v := .bool (!(mayT t))) (by kernel_rfl) ?_
  cases hT2 : (mayT t)
  · refine sat_true (by kernel_rfl) ?_
    exact sat_ret (.tuple #[.agg #[.bool false, .slice none 0 0, .int .i64 0], .int .i64 1]) (by kernel_rfl) fun w9 h9 => ⟨Dy.zero, 1, none, 0, 0, hide (widthT_no hT2), rfl, RdD.zero _⟩
  · refine sat_false (by kernel_rfl) ?_
    refine sat_prim (v := .int .i64 ((t.v.length : Nat) : Int)) (by kernel_rfl) ?_
    refine sat_loop (fun Kn vs W => ∃ (i : Nat) (m : Dy) (A_m : Option Addr) (n_m : Nat) (c_m : Nat), vs = [.int .i64 ((i : Nat) : Int), .int .i64 0, .bool m.neg, .slice A_m n_m c_m, .int .i64 m.e] ∧ Kn = t.v.length - i ∧ i ≤ t.v.length ∧ (RdD W.toWorld (.agg #[.bool m.neg, .slice A_m n_m c_m, .int .i64 m.e]) m) ∧ (widthT t = widthA m (t.v.drop i))) [.int .i64 0, .int .i64 0, .bool false, .slice none 0 0, .int .i64 0] (by kernel_rfl) (fun w1 h1 => ⟨_, 0, Dy.zero, none, 0, 0, rfl, rfl, Nat.zero_le _, RdD.zero _, widthT_yes hT2⟩) ?_
    rintro Kn vs w3 h3 ⟨i, m, A_m, n_m, c_m, rfl, rfl, h_i, r_m, hm⟩
    replace F_t1 := F_t1.mv h3.mv; replace F_t2 := F_t2.mv h3.mv
    clear h3
    refine sat_prim (v := .bool (decide ((((i : Nat) : Int) : Int) < ((t.v.length : Nat) : Int)))) (by kernel_rfl) ?_
    cases hlt : (decide ((((i : Nat) : Int) : Int) < ((t.v.length : Nat) : Int)))
    · refine sat_false (by kernel_rfl) ?_
      refine sat_chkB (by kernel_rfl) ?_
      exact sat_ret (.tuple #[.agg #[.bool m.neg, .slice A_m n_m c_m, .int .i64 m.e], .int .i64 0]) (by kernel_rfl) fun w9 h9 => ⟨m, 0, A_m, n_m, c_m, hide (widthT_end hm hlt), rfl, h9.rdD r_m⟩
    · refine sat_true (by kernel_rfl) ?_
      refine sat_idx (A := B_t) (c := d_t) (kk := .i64) (i) (by kernel_rfl) (by kernel_rfl) (lt_of hlt) F_t2.addr fun g5 o5 e5 => ?_
      obtain ⟨x1, h_x1⟩ : ∃ x_, t.v[(i)]? = some x_ := ⟨_, List.getElem?_eq_getElem (lt_of hlt)⟩
      refine sat_el F_t2 e5 h_x1 rfl (by kernel_rfl) (by kernel_rfl) (by kernel_rfl) ?_
      rintro _ ⟨A_L2, n_L2, c_L2, B_L2, m_L2, k_L2, rfl, r_L2l, r_L2h⟩
      refine sat_chkB (by kernel_rfl) ?_
      refine sat_call #[.agg #[.bool x1.lo.neg, .slice A_L2 n_L2 c_L2, .int .i64 x1.lo.e, .bool x1.hi.neg, .slice B_L2 m_L2 k_L2, .int .i64 x1.hi.e]] (by kernel_rfl) fun w6 h6 => ?_
      refine (widthI_any _ x1 _ (mkI (h6.rdD r_L2l) (h6.rdD r_L2h)) (h6.tab hT)).mono ?_
      rintro e v6 ⟨⟨d_w3, x_w3, A_w3, n_w3, c_w3, h_w3, rfl, r_w3⟩, hb6⟩
      refine ⟨hb6, [.bool d_w3.neg, .slice A_w3 n_w3 c_w3, .int .i64 d_w3.e, .int .i64 x_w3], _, rfl, by kernel_rfl, by kernel_rfl, fun g6 => ?_⟩
      replace F_t1 := F_t1.mv g6.mv; replace F_t2 := F_t2.mv g6.mv; replace r_m := g6.rdD r_m; replace r_L2l := g6.rdD r_L2l; replace r_L2h := g6.rdD r_L2h
      clear h6 hb6
      refine sat_chkB (by kernel_rfl) ?_
      refine sat_prim (v := .bool ((x_w3 : Int) != 0)) (by kernel_rfl) ?_
      cases hz : ((x_w3 : Int) != 0)
      · refine sat_false (by kernel_rfl) ?_
        refine sat_call #[.agg #[.bool d_w3.neg, .slice A_w3 n_w3 c_w3, .int .i64 d_w3.e], .agg #[.bool m.neg, .slice A_m n_m c_m, .int .i64 m.e]] (by kernel_rfl) fun w8 h8 => ?_
        refine (cmpD_any _ _ (d_w3) (m) _ (h8.rdD r_w3) (h8.rdD r_m)).mono ?_
        rintro e v8 ⟨rfl, hb8⟩
        refine ⟨hb8, [.int .i64 (cmpD d_w3 m)], _, rfl, by kernel_rfl, by kernel_rfl, fun g8 => ?_⟩
        replace F_t1 := F_t1.mv g8.mv; replace F_t2 := F_t2.mv g8.mv; replace r_m := g8.rdD r_m; replace r_L2l := g8.rdD r_L2l; replace r_L2h := g8.rdD r_L2h; replace r_w3 := g8.rdD r_w3
        clear h8 hb8
        refine sat_prim (v := .bool (decide ((0 : Int) < (cmpD d_w3 m)))) (by kernel_rfl) ?_
        cases hc : (decide ((0 : Int) < (cmpD d_w3 m)))
        · refine sat_false (by kernel_rfl) ?_
          refine sat_prim (v := .int .i64 (((i + 1 : Nat)) : Int)) (Eq.trans (b := some (.int .i64 (IntKind.i64.wrap ((((i) : Nat) : Int) + 1)))) (by kernel_rfl) (by rw [Sx.wrap_succ (n := t.v.length) (lt_of hlt) M_t2])) ?_
          exact sat_back [.int .i64 (((i + 1 : Nat)) : Int), .int .i64 0, .bool m.neg, .slice A_m n_m c_m, .int .i64 m.e] (by kernel_rfl) fun w9 h9 => ⟨_, by have := lt_of hlt; omega, i + 1, m, _, _, _, rfl, rfl, by have := lt_of hlt; omega, h9.rdD r_m, widthT_step hm h_x1 h_w3 hz hc⟩
        · refine sat_true (by kernel_rfl) ?_
          refine sat_chkB (by kernel_rfl) ?_
          refine sat_prim (v := .int .i64 (((i + 1 : Nat)) : Int)) (Eq.trans (b := some (.int .i64 (IntKind.i64.wrap ((((i) : Nat) : Int) + 1)))) (by kernel_rfl) (by rw [Sx.wrap_succ (n := t.v.length) (lt_of hlt) M_t2])) ?_
          exact sat_back [.int .i64 (((i + 1 : Nat)) : Int), .int .i64 0, .bool d_w3.neg, .slice A_w3 n_w3 c_w3, .int .i64 d_w3.e] (by kernel_rfl) fun w9 h9 => ⟨_, by have := lt_of hlt; omega, i + 1, d_w3, _, _, _, rfl, rfl, by have := lt_of hlt; omega, h9.rdD r_w3, widthT_step hm h_x1 h_w3 hz hc⟩
      · refine sat_true (by kernel_rfl) ?_
        exact sat_ret (.tuple #[.agg #[.bool false, .slice none 0 0, .int .i64 0], .int .i64 x_w3]) (by kernel_rfl) fun w9 h9 => ⟨Dy.zero, x_w3, none, 0, 0, hide (widthT_bad hm h_x1 h_w3 hz), rfl, RdD.zero _⟩

def tr_r11widthT : Sx.Tree := .chk [.lf 0, .lf 1] (.call 69 [.ag [.lf 0, .lf 1]] .one (.prim .not [.lf 2] (.ite (.lf 3) (.ret (.tup [(true, [.bit false, .nil, .num .i64 0]), (false, [.num .i64 1])])) (.call 12 [.one (.lf 1)] (.tup [(true, 3), (false, 1)]) (.chk [.lf 4, .lf 5, .lf 6] (.ret (.tup [(true, [.lf 4, .lf 5, .lf 6]), (false, [.lf 7])])))))))
theorem tr_r11widthT_eq : Sx.treeAt Tryz.prog 32 [] [] [(true, 2)] = some tr_r11widthT := by kernel_rfl

theorem rwidthT_any (A_t : Option Addr) (c_t : Nat) (B_t : Option Addr) (d_t : Nat) (t : Tb) (w : World) (h_t1 : Sx.Rows Sx.kD (fun _ => True) w A_t t.at_.length c_t t.at_) (h_t2 : Sx.Rows Sx.kI (fun _ => True) w B_t t.v.length d_t t.v) :
    Calls Tryz.prog 32 #[.agg #[.slice A_t t.at_.length c_t, .slice B_t t.v.length d_t]] w fun e w' => DyTup w' e (widthT t) ∧ Below w.heap.size w w' := by
  have F_t1 := h_t1.start
  have M_t1 := h_t1.le
  clear h_t1
  have F_t2 := h_t2.start
  have M_t2 := h_t2.le
  clear h_t2
  refine (Sx.runA [] [] (ls := [.slice A_t t.at_.length c_t, .slice B_t t.v.length d_t]) (shs := [(true, 2)]) (R := fun v w' => DyTup w' (.returned v) (widthT t)) tr_r11widthT_eq rfl (by decide) (fun q h => by cases h) ?_).mono (fun e w' ⟨v, he, hv, hb⟩ => ⟨by rw [he]; exact hv, hb⟩)
  unfold tr_r11widthT
  refine sat_chkB (by kernel_rfl) ?_
  refine sat_call #[.agg #[.slice A_t t.at_.length c_t, .slice B_t t.v.length d_t]] (by kernel_rfl) fun w1 h1 => ?_
  refine (rmayT_any _ _ _ _ t _ ((F_t1.mv h1.mv).any) ((F_t2.mv h1.mv).any)).mono ?_
  rintro e v1 ⟨rfl, hb1⟩
  refine ⟨hb1, [.bool (mayT t)], _, rfl, by kernel_rfl, by kernel_rfl, fun g1 => ?_⟩
  replace F_t1 := F_t1.mv g1.mv; replace F_t2 := F_t2.mv g1.mv
  clear h1 hb1
  refine sat_prim (v := .bool (!(mayT t))) (by kernel_rfl) ?_
  cases hT2 : (mayT t)
  · refine sat_true (by kernel_rfl) ?_
    exact sat_ret (.tuple #[.agg #[.bool false, .slice none 0 0, .int .i64 0], .int .i64 1]) (by kernel_rfl) fun w9 h9 => ⟨Dy.zero, 1, none, 0, 0, hide (widthT_no hT2), rfl, RdD.zero _⟩
  · refine sat_false (by kernel_rfl) ?_
    refine sat_call #[.slice B_t t.v.length d_t] (by kernel_rfl) fun w3 h3 => ?_
    refine (rwidthB_any _ _ t.v _ ((F_t2.mv h3.mv).any)).mono ?_
    rintro e v3 ⟨⟨d_w1, x_w1, A_w1, n_w1, c_w1, h_w1, rfl, r_w1⟩, hb3⟩
    refine ⟨hb3, [.bool d_w1.neg, .slice A_w1 n_w1 c_w1, .int .i64 d_w1.e, .int .i64 x_w1], _, rfl, by kernel_rfl, by kernel_rfl, fun g3 => ?_⟩
    replace F_t1 := F_t1.mv g3.mv; replace F_t2 := F_t2.mv g3.mv
    clear h3 hb3
    refine sat_chkB (by kernel_rfl) ?_
    exact sat_ret (.tuple #[.agg #[.bool d_w1.neg, .slice A_w1 n_w1 c_w1, .int .i64 d_w1.e], .int .i64 x_w1]) (by kernel_rfl) fun w9 h9 => ⟨d_w1, x_w1, A_w1, n_w1, c_w1, hide (h_w1.out.trans (widthT_B hT2)), rfl, h9.rdD r_w1⟩

theorem mid_no {a : Iv} (h : mayI a = false) : (Dy.zero, (1 : Int)) = midI a := by unfold midI; rw [h]; rfl
theorem mid_bad {a : Iv} {d : Dy} {x : Int} (h : mayI a = true) (e : Hid ((d, x) = twoS a.lo a.hi (sumS a.lo a.hi))) (hz : ((x : Int) != 0) = true) : (Dy.zero, x) = midI a := by unfold midI; rw [h, ← e.out, hz]; rfl
theorem mid_yes {a : Iv} {d : Dy} {x : Int} (h : mayI a = true) (e : Hid ((d, x) = twoS a.lo a.hi (sumS a.lo a.hi))) (hz : ((x : Int) != 0) = false) : shiftS d (-1) = midI a := by unfold midI; rw [h, ← e.out, hz]; rfl

def tr_r5mid : Sx.Tree := .chk [.lf 0, .lf 1, .lf 2, .lf 3, .lf 4, .lf 5] (.call 53 [.ag [.lf 0, .lf 1, .lf 2, .lf 3, .lf 4, .lf 5]] .one (.prim .not [.lf 6] (.ite (.lf 7) (.ret (.tup [(true, [.bit false, .nil, .num .i64 0]), (false, [.num .i64 1])])) (.call 98 [.ag [.lf 0, .lf 1, .lf 2], .ag [.lf 3, .lf 4, .lf 5]] (.tup [(true, 3), (false, 1)]) (.chk [.lf 8, .lf 9, .lf 10] (.prim (.bin .neq) [.lf 11, .num .i64 0] (.ite (.lf 12) (.ret (.tup [(true, [.bit false, .nil, .num .i64 0]), (false, [.lf 11])])) (.call 99 [.ag [.lf 8, .lf 9, .lf 10], .one (.num .i64 ((-1)))] (.tup [(true, 3), (false, 1)]) (.chk [.lf 13, .lf 14, .lf 15] (.ret (.tup [(true, [.lf 13, .lf 14, .lf 15]), (false, [.lf 16])])))))))))))
theorem tr_r5mid_eq : Sx.treeAt Tryz.prog 70 [] [] [(true, 6)] = some tr_r5mid := by kernel_rfl

theorem rmidI_any (v_a : Value) (a : Iv) (w : World) (h_a : RdI w v_a a) :
    Calls Tryz.prog 70 #[v_a] w fun e w' => DyTup w' e (midI a) ∧ Below w.heap.size w w' := by
  obtain ⟨A_a, n_a, c_a, B_a, m_a, k_a, rfl, r_al, r_ah⟩ := h_a
  refine (Sx.runA [] [] (ls := [.bool a.lo.neg, .slice A_a n_a c_a, .int .i64 a.lo.e, .bool a.hi.neg, .slice B_a m_a k_a, .int .i64 a.hi.e]) (shs := [(true, 6)]) (R := fun v w' => DyTup w' (.returned v) (midI a)) tr_r5mid_eq rfl (by decide) (fun q h => by cases h) ?_).mono (fun e w' ⟨v, he, hv, hb⟩ => ⟨by rw [he]; exact hv, hb⟩)
  unfold tr_r5mid
  refine sat_chkB (by kernel_rfl) ?_
  refine sat_call #[.agg #[.bool a.lo.neg, .slice A_a n_a c_a, .int .i64 a.lo.e, .bool a.hi.neg, .slice B_a m_a k_a, .int .i64 a.hi.e]] (by kernel_rfl) fun w1 h1 => ?_
  refine (rmayI_any _ a _ (mkI (h1.rdD r_al) (h1.rdD r_ah))).mono ?_
  rintro e v1 ⟨rfl, hb1⟩
  refine ⟨hb1, [.bool (mayI a)], _, rfl, by kernel_rfl, by kernel_rfl, fun g1 => ?_⟩
  replace r_al := g1.rdD r_al; replace r_ah := g1.rdD r_ah
  clear h1 hb1
  refine sat_prim (v := .bool (!(mayI a))) (by kernel_rfl) ?_
  cases hE : (mayI a)
  · refine sat_true (by kernel_rfl) ?_
    exact sat_ret (.tuple #[.agg #[.bool false, .slice none 0 0, .int .i64 0], .int .i64 1]) (by kernel_rfl) fun w9 h9 => ⟨Dy.zero, 1, none, 0, 0, hide (mid_no hE), rfl, RdD.zero _⟩
  · refine sat_false (by kernel_rfl) ?_
    refine sat_call #[.agg #[.bool a.lo.neg, .slice A_a n_a c_a, .int .i64 a.lo.e], .agg #[.bool a.hi.neg, .slice B_a m_a k_a, .int .i64 a.hi.e]] (by kernel_rfl) fun w3 h3 => ?_
    refine (raddD_any _ _ (a.lo) (a.hi) _ (h3.rdD r_al) (h3.rdD r_ah)).mono ?_
    rintro e v3 ⟨⟨d_s1, x_s1, A_s1, n_s1, c_s1, h_s1, rfl, r_s1⟩, hb3⟩
    refine ⟨hb3, [.bool d_s1.neg, .slice A_s1 n_s1 c_s1, .int .i64 d_s1.e, .int .i64 x_s1], _, rfl, by kernel_rfl, by kernel_rfl, fun g3 => ?_⟩
    replace r_al := g3.rdD r_al; replace r_ah := g3.rdD r_ah
    clear h3 hb3
    refine sat_chkB (by kernel_rfl) ?_
    refine sat_prim (v := .bool ((x_s1 : Int) != 0)) (by kernel_rfl) ?_
    cases hz : ((x_s1 : Int) != 0)
    · refine sat_false (by kernel_rfl) ?_
      refine sat_call #[.agg #[.bool d_s1.neg, .slice A_s1 n_s1 c_s1, .int .i64 d_s1.e], .int .i64 (-1)] (by kernel_rfl) fun w5 h5 => ?_
      refine (rshiftD_any _ (d_s1) (-1) _ (h5.rdD r_s1)).mono ?_
      rintro e v5 ⟨⟨d_k2, x_k2, A_k2, n_k2, c_k2, h_k2, rfl, r_k2⟩, hb5⟩
      refine ⟨hb5, [.bool d_k2.neg, .slice A_k2 n_k2 c_k2, .int .i64 d_k2.e, .int .i64 x_k2], _, rfl, by kernel_rfl, by kernel_rfl, fun g5 => ?_⟩
      replace r_al := g5.rdD r_al; replace r_ah := g5.rdD r_ah; replace r_s1 := g5.rdD r_s1
      clear h5 hb5
      refine sat_chkB (by kernel_rfl) ?_
      exact sat_ret (.tuple #[.agg #[.bool d_k2.neg, .slice A_k2 n_k2 c_k2, .int .i64 d_k2.e], .int .i64 x_k2]) (by kernel_rfl) fun w9 h9 => ⟨d_k2, x_k2, A_k2, n_k2, c_k2, hide (h_k2.out.trans (mid_yes hE h_s1 hz)), rfl, h9.rdD r_k2⟩
    · refine sat_true (by kernel_rfl) ?_
      exact sat_ret (.tuple #[.agg #[.bool false, .slice none 0 0, .int .i64 0], .int .i64 x_s1]) (by kernel_rfl) fun w9 h9 => ⟨Dy.zero, x_s1, none, 0, 0, hide (mid_bad hE h_s1 hz), rfl, RdD.zero _⟩

def tr_r11halve : Sx.Tree := .chk [.lf 0, .lf 1] (.call 69 [.ag [.lf 0, .lf 1]] .one (.prim .not [.lf 2] (.ite (.lf 3) (.ret (.tup [(true, [.nil, .nil]), (false, [.num .i64 1])])) (.prim .len [.lf 1] (.prim (.bin .mul) [.num .i64 2, .lf 4] (.prim (.bin .gtr) [.lf 5, .num .i64 256] (.ite (.lf 6) (.ret (.tup [(true, [.nil, .nil]), (false, [.num .i64 1])])) (.prim (.idx 3) [.lf 0, .num .i64 0] (.load 30 (.lf 7) (.ag 3) (.row 30 [.lf 8, .lf 9, .lf 10] 1 [] (.chk [.lf 11] (.chk [.lf 11] (.loop 0 [.num .i64 0, .num .i64 0, .lf 11, .nil] (.prim .len [.lf 1] (.prim (.bin .lss) [.lf 12, .lf 16] (.ite (.lf 17) (.prim (.idx 3) [.lf 0, .lf 12] (.load 30 (.lf 18) (.ag 3) (.prim (.bin .add) [.lf 12, .num .i64 1] (.prim (.idx 3) [.lf 0, .lf 22] (.load 30 (.lf 23) (.ag 3) (.chk [.lf 19, .lf 20, .lf 21, .lf 24, .lf 25, .lf 26] (.call 70 [.ag [.lf 19, .lf 20, .lf 21, .lf 24, .lf 25, .lf 26]] (.tup [(true, 3), (false, 1)]) (.chk [.lf 27, .lf 28, .lf 29] (.prim (.bin .neq) [.lf 30, .num .i64 0] (.ite (.lf 31) (.ret (.tup [(true, [.nil, .nil]), (false, [.lf 30])])) (.prim (.bin .add) [.lf 12, .num .i64 1] (.prim (.idx 3) [.lf 0, .lf 32] (.load 30 (.lf 33) (.ag 3) (.row 30 [.lf 27, .lf 28, .lf 29, .lf 34, .lf 35, .lf 36] 2 [] (.app 30 3 40 (.lf 14) (.lf 37) (.chk [.lf 38] (.prim (.idx 6) [.lf 1, .lf 12] (.load 49 (.lf 39) (.ag 6) (.prim (.idx 6) [.lf 1, .lf 12] (.load 49 (.lf 46) (.ag 6) (.row 49 [.lf 40, .lf 41, .lf 42, .lf 43, .lf 44, .lf 45, .lf 47, .lf 48, .lf 49, .lf 50, .lf 51, .lf 52] 2 [] (.app 49 6 80 (.lf 15) (.lf 53) (.chk [.lf 54] (.prim (.bin .add) [.lf 12, .num .i64 1] (.back 0 [.lf 55, .lf 13, .lf 38, .lf 54]))))))))))))))))))))))))) (.chk [.lf 14, .lf 15] (.ret (.tup [(true, [.lf 14, .lf 15]), (false, [.num .i64 0])])))))))))))))))))))
theorem tr_r11halve_eq : Sx.treeAt Tryz.prog 28 [] [2] [(true, 2)] = some tr_r11halve := by kernel_rfl

set_option maxRecDepth 100000 in
set_option maxHeartbeats 4000000 in
theorem rhalveT_any (A_t : Option Addr) (c_t : Nat) (B_t : Option Addr) (d_t : Nat) (t : Tb) (w : World) (h_t1 : Sx.Rows Sx.kD (fun _ => True) w A_t t.at_.length c_t t.at_) (h_t2 : Sx.Rows Sx.kI (fun _ => True) w B_t t.v.length d_t t.v) :
    Calls Tryz.prog 28 #[.agg #[.slice A_t t.at_.length c_t, .slice B_t t.v.length d_t]] w fun e w' => TbTup w w' e (halveT t) ∧ Below w.heap.size w w' := by
  have F_t1 := h_t1.start
  have M_t1 := h_t1.le
  clear h_t1
  have F_t2 := h_t2.start
  have M_t2 := h_t2.le
  clear h_t2
  refine (Sx.runA [] [2] (ls := [.slice A_t t.at_.length c_t, .slice B_t t.v.length d_t]) (shs := [(true, 2)]) (R := fun v w' => TbTup w w' (.returned v) (halveT t)) tr_r11halve_eq rfl (by decide) (fun q h => by cases h) ?_).mono (fun e w' ⟨v, he, hv, hb⟩ => ⟨by rw [he]; exact hv, hb⟩)
  unfold tr_r11halve
  refine sat_chkB (by kernel_rfl) ?_
  refine sat_call #[.agg #[.slice A_t t.at_.length c_t, .slice B_t t.v.length d_t]] (by kernel_rfl) fun w1 h1 => ?_
  refine (rmayT_any _ _ _ _ t _ ((F_t1.mv h1.mv).any) ((F_t2.mv h1.mv).any)).mono ?_
  rintro e v1 ⟨rfl, hb1⟩
  refine ⟨hb1, [.bool (mayT t)], _, rfl, by kernel_rfl, by kernel_rfl, fun g1 => ?_⟩
  replace F_t1 := F_t1.mv g1.mv; replace F_t2 := F_t2.mv g1.mv
  clear h1 hb1
  refine sat_prim (v := .bool (!(mayT t))) (by kernel_rfl) ?_
  cases hMT : (mayT t)
  · refine sat_true (by kernel_rfl) ?_
    exact sat_ret (.tuple #[.agg #[.slice none 0 0, .slice none 0 0], .int .i64 1]) (by kernel_rfl) fun w9 h9 => TbTup.nil (by unfold halveT; rw [hMT]; rfl)
  · refine sat_false (by kernel_rfl) ?_
    refine sat_prim (v := .int .i64 ((t.v.length : Nat) : Int)) (by kernel_rfl) ?_
    refine sat_prim (v := .int .i64 ((2 * t.v.length : Nat) : Int)) (Eq.trans (b := some (.int .i64 (IntKind.i64.wrap (2 * ((t.v.length : Nat) : Int))))) (by kernel_rfl) (sml (by have := (MayT.of hMT).few; omega) (by have := (MayT.of hMT).few; omega))) ?_
    refine sat_prim (v := .bool (decide ((256 : Int) < ((2 * t.v.length : Nat) : Int)))) (by kernel_rfl) ?_
    cases hS : (decide ((256 : Int) < ((2 * t.v.length : Nat) : Int)))
    · refine sat_false (by kernel_rfl) ?_
      refine sat_idx (A := A_t) (c := c_t) (kk := .i64) 0 (by kernel_rfl) (by kernel_rfl) (by have := (MayT.of hMT).len; omega) F_t1.addr fun g4 o4 e4 => ?_
      obtain ⟨x1, h_x1⟩ : ∃ x_, t.at_[0]? = some x_ := ⟨_, List.getElem?_eq_getElem (by have := (MayT.of hMT).len; omega)⟩
      refine sat_el F_t1 e4 h_x1 rfl (by kernel_rfl) (by kernel_rfl) (by kernel_rfl) ?_
      rintro _ ⟨A_L2, n_L2, c_L2, rfl, r_L2⟩
      refine Sx.sat_rowB [.bool x1.neg, .slice A_L2 n_L2 c_L2, .int .i64 x1.e] (by kernel_rfl) (by intro x hx; cases hx) fun u1 h1 B1 Z1 => ?_
      replace F_t1 := F_t1.mv h1.mv; replace F_t2 := F_t2.mv h1.mv; replace r_L2 := h1.rdD r_L2
      have G_P3 : Sx.Gr Sx.kD w 30 _ (.slice (some ⟨u1.heap.size, 0, none⟩) 1 1) [x1] := Sx.Gr.one (k := Sx.kD) (by decide) B1 (List.mem_cons_self ..) Z1 ⟨_, _, _, rfl, r_L2⟩
      generalize u1.heap.size = N_P3 at *
      generalize (u1.alloc _) = w_P3 at *
      clear B1 h1 Z1
      refine sat_chkB (by kernel_rfl) ?_
      refine sat_chkB (by kernel_rfl) ?_
      refine sat_loop (fun Kn vs W => ∃ (i : Nat) (p : List Dy) (A_p : Option Addr) (c_p : Nat) (q : List Iv) (A_q : Option Addr) (c_q : Nat), vs = [.int .i64 ((i : Nat) : Int), .int .i64 0, .slice A_p p.length c_p, .slice A_q q.length c_q] ∧ Kn = t.v.length - i ∧ i ≤ t.v.length ∧ (Sx.Gr Sx.kD w 30 W (.slice A_p p.length c_p) p) ∧ (Sx.Gr Sx.kI w 49 W (.slice A_q q.length c_q) q) ∧ (Sx.Apart (.slice A_p p.length c_p) (.slice A_q q.length c_q)) ∧ (halveT t = halvL t.at_ i p q (t.v.drop i)) ∧ (p.length = 2 * i + 1) ∧ (q.length = 2 * i)) [.int .i64 0, .int .i64 0, .slice (some ⟨N_P3, 0, none⟩) 1 1, .slice none 0 0] (by kernel_rfl) (fun w1 h1 => ⟨_, 0, [x1], _, _, [], none, 0, rfl, rfl, Nat.zero_le _, G_P3.le h1, Sx.Gr.nil (by decide) _ _ _, Sx.Apart.nil, halve_start hMT hS h_x1, rfl, rfl⟩) ?_
      rintro Kn vs w5 h5 ⟨i, p, A_p, c_p, q, A_q, c_q, rfl, rfl, h_i, G_p, G_q, D, hm, hp, hq⟩
      replace F_t1 := F_t1.mv h5.mv; replace F_t2 := F_t2.mv h5.mv; replace r_L2 := h5.rdD r_L2
      clear h5
      refine sat_prim (v := .int .i64 ((t.v.length : Nat) : Int)) (by kernel_rfl) ?_
      refine sat_prim (v := .bool (decide ((((i : Nat) : Int) : Int) < ((t.v.length : Nat) : Int)))) (by kernel_rfl) ?_
      cases hlt : (decide ((((i : Nat) : Int) : Int) < ((t.v.length : Nat) : Int)))
      · refine sat_false (by kernel_rfl) ?_
        refine sat_chkB (by kernel_rfl) ?_
        exact sat_ret (.tuple #[.agg #[.slice A_p p.length c_p, .slice A_q q.length c_q], .int .i64 0]) (by kernel_rfl) fun w9 h9 => ⟨p, q, 0, _, _, _, _, rfl, hide (halve_end hm hlt), (G_p.le h9).done fun h => h, (G_q.le h9).done fun h => h⟩
      · refine sat_true (by kernel_rfl) ?_
        refine sat_idx (A := A_t) (c := c_t) (kk := .i64) (i) (by kernel_rfl) (by kernel_rfl) (by have := lt_of hlt; have := (MayT.of hMT).len; omega) F_t1.addr fun g7 o7 e7 => ?_
        obtain ⟨x4, h_x4⟩ : ∃ x_, t.at_[(i)]? = some x_ := ⟨_, List.getElem?_eq_getElem (by have := lt_of hlt; have := (MayT.of hMT).len; omega)⟩
        refine sat_el F_t1 e7 h_x4 rfl (by kernel_rfl) (by kernel_rfl) (by kernel_rfl) ?_
        rintro _ ⟨A_L5, n_L5, c_L5, rfl, r_L5⟩
        refine sat_prim (v := .int .i64 (((i + 1 : Nat)) : Int)) (Eq.trans (b := some (.int .i64 (IntKind.i64.wrap ((((i) : Nat) : Int) + 1)))) (by kernel_rfl) (by rw [Sx.wrap_succ (n := t.v.length) (lt_of hlt) M_t2])) ?_
        refine sat_idx (A := A_t) (c := c_t) (kk := .i64) (((i + 1 : Nat))) (by kernel_rfl) (by kernel_rfl) (by have := lt_of hlt; have := (MayT.of hMT).len; omega) F_t1.addr fun g8 o8 e8 => ?_
        obtain ⟨x6, h_x6⟩ : ∃ x_, t.at_[(((i + 1 : Nat)))]? = some x_ := ⟨_, List.getElem?_eq_getElem (by have := lt_of hlt; have := (MayT.of hMT).len; omega)⟩
        refine sat_el F_t1 e8 h_x6 rfl (by kernel_rfl) (by kernel_rfl) (by kernel_rfl) ?_
        rintro _ ⟨A_L7, n_L7, c_L7, rfl, r_L7⟩
        refine sat_chkB (by kernel_rfl) ?_
        refine sat_call #[.agg #[.bool x4.neg, .slice A_L5 n_L5 c_L5, .int .i64 x4.e, .bool x6.neg, .slice A_L7 n_L7 c_L7, .int .i64 x6.e]] (by kernel_rfl) fun w9 h9 => ?_
        refine (rmidI_any _ ⟨x4, x6⟩ _ (mkI (h9.rdD r_L5) (h9.rdD r_L7))).mono ?_
        rintro e v9 ⟨⟨d_w8, x_w8, A_w8, n_w8, c_w8, h_w8, rfl, r_w8⟩, hb9⟩
        refine ⟨hb9, [.bool d_w8.neg, .slice A_w8 n_w8 c_w8, .int .i64 d_w8.e, .int .i64 x_w8], _, rfl, by kernel_rfl, by kernel_rfl, fun g9 => ?_⟩
        replace F_t1 := F_t1.mv g9.mv; replace F_t2 := F_t2.mv g9.mv; replace r_L2 := g9.rdD r_L2; replace G_p := G_p.le g9; replace G_q := G_q.le g9; replace r_L5 := g9.rdD r_L5; replace r_L7 := g9.rdD r_L7
        clear h9 hb9
        refine sat_chkB (by kernel_rfl) ?_
        refine sat_prim (v := .bool ((x_w8 : Int) != 0)) (by kernel_rfl) ?_
        cases hz : ((x_w8 : Int) != 0)
        · refine sat_false (by kernel_rfl) ?_
          refine sat_prim (v := .int .i64 (((i + 1 : Nat)) : Int)) (Eq.trans (b := some (.int .i64 (IntKind.i64.wrap ((((i) : Nat) : Int) + 1)))) (by kernel_rfl) (by rw [Sx.wrap_succ (n := t.v.length) (lt_of hlt) M_t2])) ?_
          refine sat_idx (A := A_t) (c := c_t) (kk := .i64) (((i + 1 : Nat))) (by kernel_rfl) (by kernel_rfl) (by have := lt_of hlt; have := (MayT.of hMT).len; omega) F_t1.addr fun g11 o11 e11 => ?_
          refine sat_el F_t1 e11 h_x6 rfl (by kernel_rfl) (by kernel_rfl) (by kernel_rfl) ?_
          rintro _ ⟨A_L9, n_L9, c_L9, rfl, r_L9⟩
          refine sat_rowN [.bool d_w8.neg, .slice A_w8 n_w8 c_w8, .int .i64 d_w8.e, .bool x6.neg, .slice A_L9 n_L9 c_L9, .int .i64 x6.e] (by kernel_rfl) (by intro x hx; cases hx) fun u1 h1 B1 NB1 => ?_
          replace F_t1 := F_t1.mv h1.mv; replace F_t2 := F_t2.mv h1.mv; replace r_L2 := h1.rdD r_L2; replace G_p := G_p.le h1; replace G_q := G_q.le h1; replace r_L5 := h1.rdD r_L5; replace r_L7 := h1.rdD r_L7; replace r_w8 := h1.rdD r_w8; replace r_L9 := h1.rdD r_L9
          have F_R10 : Sx.Rows Sx.kD (Sx.NB _) _ (some ⟨u1.heap.size, 0, none⟩) 2 2 [d_w8, x6] := rows_two (k := Sx.kD) (cs := [.bool d_w8.neg, .slice A_w8 n_w8 c_w8, .int .i64 d_w8.e]) B1 NB1 ⟨_, _, _, rfl, r_w8⟩ ⟨_, _, _, rfl, r_L9⟩
          generalize u1.heap.size = N_R10 at *
          generalize (u1.alloc _) = w_R10 at *
          clear B1 h1 NB1
          refine sat_app (.slice A_p p.length c_p) (.slice (some ⟨N_R10, 0, none⟩) 2 2) (by kernel_rfl) (by kernel_rfl) fun w12 h12 => ?_
          refine (G_p.le h12).app (l' := [d_w8, x6]) (F_R10.mv h12.mv) (by have := lt_of hlt; have := (MayT.of hMT).few; simp only [List.length_cons, List.length_nil, maxLen]; omega) (by have := lt_of hlt; have := (MayT.of hMT).few; simp only [List.length_cons, List.length_nil]; omega) fun A_G11 c_G11 v12 a12 G11 => ?_
          have Q12 := (G_q.le h12).other a12 D h12.wf
          replace G_q := Q12.1
          replace D := Q12.2
          replace F_t1 := F_t1.mv h12.mv; replace F_t2 := F_t2.mv h12.mv; replace r_L2 := h12.rdD r_L2; replace r_L5 := h12.rdD r_L5; replace r_L7 := h12.rdD r_L7; replace r_w8 := h12.rdD r_w8; replace r_L9 := h12.rdD r_L9; replace F_R10 := F_R10.mv h12.mv
          replace F_t1 := F_t1.mv a12.toLf.mv; replace F_t2 := F_t2.mv a12.toLf.mv; replace r_L2 := a12.toLf.rdD r_L2; replace r_L5 := a12.toLf.rdD r_L5; replace r_L7 := a12.toLf.rdD r_L7; replace r_w8 := a12.toLf.rdD r_w8; replace r_L9 := a12.toLf.rdD r_L9; replace F_R10 := F_R10.mv a12.toLf.mv
          clear h12 a12 G_p Q12
          refine sat_chkB (by kernel_rfl) ?_
          refine sat_idx (A := B_t) (c := d_t) (kk := .i64) (i) (by kernel_rfl) (by kernel_rfl) (lt_of hlt) F_t2.addr fun g13 o13 e13 => ?_
          obtain ⟨x12, h_x12⟩ : ∃ x_, t.v[(i)]? = some x_ := ⟨_, List.getElem?_eq_getElem (lt_of hlt)⟩
          refine sat_el F_t2 e13 h_x12 rfl (by kernel_rfl) (by kernel_rfl) (by kernel_rfl) ?_
          rintro _ ⟨A_L13, n_L13, c_L13, B_L13, m_L13, k_L13, rfl, r_L13l, r_L13h⟩
          refine sat_idx (A := B_t) (c := d_t) (kk := .i64) (i) (by kernel_rfl) (by kernel_rfl) (lt_of hlt) F_t2.addr fun g14 o14 e14 => ?_
          refine sat_el F_t2 e14 h_x12 rfl (by kernel_rfl) (by kernel_rfl) (by kernel_rfl) ?_
          rintro _ ⟨A_L14, n_L14, c_L14, B_L14, m_L14, k_L14, rfl, r_L14l, r_L14h⟩
          refine sat_rowN [.bool x12.lo.neg, .slice A_L13 n_L13 c_L13, .int .i64 x12.lo.e, .bool x12.hi.neg, .slice B_L13 m_L13 k_L13, .int .i64 x12.hi.e, .bool x12.lo.neg, .slice A_L14 n_L14 c_L14, .int .i64 x12.lo.e, .bool x12.hi.neg, .slice B_L14 m_L14 k_L14, .int .i64 x12.hi.e] (by kernel_rfl) (by intro x hx; cases hx) fun u1 h1 B1 NB1 => ?_
          replace F_t1 := F_t1.mv h1.mv; replace F_t2 := F_t2.mv h1.mv; replace r_L2 := h1.rdD r_L2; replace r_L5 := h1.rdD r_L5; replace r_L7 := h1.rdD r_L7; replace r_w8 := h1.rdD r_w8; replace r_L9 := h1.rdD r_L9; replace F_R10 := F_R10.mv h1.mv; replace G_q := G_q.le h1; replace G11 := G11.le h1; replace r_L13l := h1.rdD r_L13l; replace r_L13h := h1.rdD r_L13h; replace r_L14l := h1.rdD r_L14l; replace r_L14h := h1.rdD r_L14h
          have F_R15 : Sx.Rows Sx.kI (Sx.NB _) _ (some ⟨u1.heap.size, 0, none⟩) 2 2 [x12, x12] := rows_two (k := Sx.kI) (cs := [.bool x12.lo.neg, .slice A_L13 n_L13 c_L13, .int .i64 x12.lo.e, .bool x12.hi.neg, .slice B_L13 m_L13 k_L13, .int .i64 x12.hi.e]) B1 NB1 ⟨_, _, _, _, _, _, rfl, r_L13l, r_L13h⟩ ⟨_, _, _, _, _, _, rfl, r_L14l, r_L14h⟩
          generalize u1.heap.size = N_R15 at *
          generalize (u1.alloc _) = w_R15 at *
          clear B1 h1 NB1
          refine sat_app (.slice A_q q.length c_q) (.slice (some ⟨N_R15, 0, none⟩) 2 2) (by kernel_rfl) (by kernel_rfl) fun w15 h15 => ?_
          refine (G_q.le h15).app (l' := [x12, x12]) (F_R15.mv h15.mv) (by have := lt_of hlt; have := (MayT.of hMT).few; simp only [List.length_cons, List.length_nil, maxLen]; omega) (by have := lt_of hlt; have := (MayT.of hMT).few; simp only [List.length_cons, List.length_nil]; omega) fun A_G16 c_G16 v15 a15 G16 => ?_
          have Q15 := (G11.le h15).other a15 D.symm h15.wf
          replace G11 := Q15.1
          replace D := Q15.2.symm
          replace F_t1 := F_t1.mv h15.mv; replace F_t2 := F_t2.mv h15.mv; replace r_L2 := h15.rdD r_L2; replace r_L5 := h15.rdD r_L5; replace r_L7 := h15.rdD r_L7; replace r_w8 := h15.rdD r_w8; replace r_L9 := h15.rdD r_L9; replace F_R10 := F_R10.mv h15.mv; replace r_L13l := h15.rdD r_L13l; replace r_L13h := h15.rdD r_L13h; replace r_L14l := h15.rdD r_L14l; replace r_L14h := h15.rdD r_L14h; replace F_R15 := F_R15.mv h15.mv
          replace F_t1 := F_t1.mv a15.toLf.mv; replace F_t2 := F_t2.mv a15.toLf.mv; replace r_L2 := a15.toLf.rdD r_L2; replace r_L5 := a15.toLf.rdD r_L5; replace r_L7 := a15.toLf.rdD r_L7; replace r_w8 := a15.toLf.rdD r_w8; replace r_L9 := a15.toLf.rdD r_L9; replace F_R10 := F_R10.mv a15.toLf.mv; replace r_L13l := a15.toLf.rdD r_L13l; replace r_L13h := a15.toLf.rdD r_L13h; replace r_L14l := a15.toLf.rdD r_L14l; replace r_L14h := a15.toLf.rdD r_L14h; replace F_R15 := F_R15.mv a15.toLf.mv
          clear h15 a15 G_q Q15
          refine sat_chkB (by kernel_rfl) ?_
          refine sat_prim (v := .int .i64 (((i + 1 : Nat)) : Int)) (Eq.trans (b := some (.int .i64 (IntKind.i64.wrap ((((i) : Nat) : Int) + 1)))) (by kernel_rfl) (by rw [Sx.wrap_succ (n := t.v.length) (lt_of hlt) M_t2])) ?_
          exact sat_back [.int .i64 (((i + 1 : Nat)) : Int), .int .i64 0, .slice A_G11 (p ++ [d_w8, x6]).length c_G11, .slice A_G16 (q ++ [x12, x12]).length c_G16] (by kernel_rfl) fun w9 h9 => ⟨_, by have := lt_of hlt; omega, i + 1, (p ++ [d_w8, x6]), _, _, (q ++ [x12, x12]), _, _, rfl, rfl, by have := lt_of hlt; omega, G11.le h9, G16.le h9, D, halve_step hm h_x12 h_x4 h_x6 h_w8 hz, by rw [List.length_append, hp]; simp only [List.length_cons, List.length_nil]; omega, by rw [List.length_append, hq]; simp only [List.length_cons, List.length_nil]; omega⟩
        · refine sat_true (by kernel_rfl) ?_
          obtain ⟨x9, h_x9⟩ : ∃ x_, t.v[(i)]? = some x_ := ⟨_, List.getElem?_eq_getElem (lt_of hlt)⟩
          exact sat_ret (.tuple #[.agg #[.slice none 0 0, .slice none 0 0], .int .i64 x_w8]) (by kernel_rfl) fun w9 h9 => TbTup.nil (halve_bad hm h_x9 h_x4 h_x6 h_w8 hz)
    · refine sat_true (by kernel_rfl) ?_
      exact sat_ret (.tuple #[.agg #[.slice none 0 0, .slice none 0 0], .int .i64 1]) (by kernel_rfl) fun w9 h9 => TbTup.nil (by unfold halveT; rw [hMT, hS]; rfl)

def tr_r11cut : Sx.Tree := .chk [.lf 0, .lf 1] (.chk [.lf 2, .lf 3, .lf 4] (.chk [.lf 5, .lf 6, .lf 7] (.call 69 [.ag [.lf 0, .lf 1]] .one (.prim .not [.lf 8] (.ite (.lf 9) (.ret (.tup [(true, [.nil, .nil]), (false, [.num .i64 1])])) (.call 73 [.ag [.lf 2, .lf 3, .lf 4]] .one (.prim .not [.lf 10] (.ite (.lf 11) (.ret (.tup [(true, [.nil, .nil]), (false, [.num .i64 1])])) (.call 73 [.ag [.lf 5, .lf 6, .lf 7]] .one (.prim .not [.lf 12] (.ite (.lf 13) (.ret (.tup [(true, [.nil, .nil]), (false, [.num .i64 1])])) (.call 49 [.ag [.lf 2, .lf 3, .lf 4], .ag [.lf 5, .lf 6, .lf 7]] .one (.prim .not [.lf 14] (.ite (.lf 15) (.ret (.tup [(true, [.nil, .nil]), (false, [.num .i64 1])])) (.call 74 [.ag [.lf 0, .lf 1], .ag [.lf 2, .lf 3, .lf 4]] .one (.prim .not [.lf 16] (.ite (.lf 17) (.ret (.tup [(true, [.nil, .nil]), (false, [.num .i64 5])])) (.call 74 [.ag [.lf 0, .lf 1], .ag [.lf 5, .lf 6, .lf 7]] .one (.prim .not [.lf 18] (.ite (.lf 19) (.ret (.tup [(true, [.nil, .nil]), (false, [.num .i64 5])])) (.row 30 [.lf 2, .lf 3, .lf 4] 1 [] (.chk [.lf 20] (.chk [.lf 20] (.loop 0 [.num .i64 0, .lf 20, .nil] (.prim .len [.lf 1] (.prim (.bin .lss) [.lf 21, .lf 24] (.ite (.lf 25) (.prim (.bin .add) [.lf 21, .num .i64 1] (.prim (.idx 3) [.lf 0, .lf 26] (.load 30 (.lf 27) (.ag 3) (.call 49 [.ag [.lf 2, .lf 3, .lf 4], .ag [.lf 28, .lf 29, .lf 30]] .one (.prim .not [.lf 31] (.ite (.lf 32) (.prim (.bin .add) [.lf 21, .num .i64 1] (.back 0 [.lf 33, .lf 22, .lf 23])) (.prim (.idx 3) [.lf 0, .lf 21] (.load 30 (.lf 33) (.ag 3) (.call 49 [.ag [.lf 34, .lf 35, .lf 36], .ag [.lf 5, .lf 6, .lf 7]] .one (.prim .not [.lf 37] (.ite (.lf 38) (.prim (.bin .add) [.lf 21, .num .i64 1] (.back 0 [.lf 39, .lf 22, .lf 23])) (.prim (.bin .add) [.lf 21, .num .i64 1] (.prim (.idx 3) [.lf 0, .lf 39] (.load 30 (.lf 40) (.ag 3) (.chk [.lf 41, .lf 42, .lf 43] (.call 49 [.ag [.lf 5, .lf 6, .lf 7], .ag [.lf 41, .lf 42, .lf 43]] .one (.ite (.lf 44) (.chk [.lf 5, .lf 6, .lf 7] (.prim (.idx 6) [.lf 1, .lf 21] (.load 49 (.lf 45) (.ag 6) (.alt (.row 30 [.lf 5, .lf 6, .lf 7] 1 [] (.alt (.app 30 3 40 (.lf 22) (.lf 52) (.row 49 [.lf 46, .lf 47, .lf 48, .lf 49, .lf 50, .lf 51] 1 [] (.app 49 6 80 (.lf 23) (.lf 54) (.chk [.lf 53] (.chk [.lf 55] (.prim (.bin .add) [.lf 21, .num .i64 1] (.back 0 [.lf 56, .lf 53, .lf 55]))))))) (.row 49 [.lf 46, .lf 47, .lf 48, .lf 49, .lf 50, .lf 51] 1 [] (.app 30 3 40 (.lf 22) (.lf 52) (.app 49 6 80 (.lf 23) (.lf 53) (.chk [.lf 54] (.chk [.lf 55] (.prim (.bin .add) [.lf 21, .num .i64 1] (.back 0 [.lf 56, .lf 54, .lf 55]))))))))) (.row 49 [.lf 46, .lf 47, .lf 48, .lf 49, .lf 50, .lf 51] 1 [] (.row 30 [.lf 5, .lf 6, .lf 7] 1 [] (.app 30 3 40 (.lf 22) (.lf 53) (.app 49 6 80 (.lf 23) (.lf 52) (.chk [.lf 54] (.chk [.lf 55] (.prim (.bin .add) [.lf 21, .num .i64 1] (.back 0 [.lf 56, .lf 54, .lf 55])))))))))))) (.prim (.idx 6) [.lf 1, .lf 21] (.load 49 (.lf 45) (.ag 6) (.alt (.row 30 [.lf 41, .lf 42, .lf 43] 1 [] (.alt (.app 30 3 40 (.lf 22) (.lf 52) (.row 49 [.lf 46, .lf 47, .lf 48, .lf 49, .lf 50, .lf 51] 1 [] (.app 49 6 80 (.lf 23) (.lf 54) (.chk [.lf 53] (.chk [.lf 55] (.prim (.bin .add) [.lf 21, .num .i64 1] (.back 0 [.lf 56, .lf 53, .lf 55]))))))) (.row 49 [.lf 46, .lf 47, .lf 48, .lf 49, .lf 50, .lf 51] 1 [] (.app 30 3 40 (.lf 22) (.lf 52) (.app 49 6 80 (.lf 23) (.lf 53) (.chk [.lf 54] (.chk [.lf 55] (.prim (.bin .add) [.lf 21, .num .i64 1] (.back 0 [.lf 56, .lf 54, .lf 55]))))))))) (.row 49 [.lf 46, .lf 47, .lf 48, .lf 49, .lf 50, .lf 51] 1 [] (.row 30 [.lf 41, .lf 42, .lf 43] 1 [] (.app 30 3 40 (.lf 22) (.lf 53) (.app 49 6 80 (.lf 23) (.lf 52) (.chk [.lf 54] (.chk [.lf 55] (.prim (.bin .add) [.lf 21, .num .i64 1] (.back 0 [.lf 56, .lf 54, .lf 55])))))))))))))))))))))))))))) (.chk [.lf 22, .lf 23] (.ret (.tup [(true, [.lf 22, .lf 23]), (false, [.num .i64 0])]))))))))))))))))))))))))))))))
theorem tr_r11cut_eq : Sx.treeAt Tryz.prog 30 [] [4] [(true, 2), (true, 3), (true, 3)] = some tr_r11cut := by kernel_rfl

set_option maxRecDepth 100000 in
set_option maxHeartbeats 4000000 in
theorem rcutT_any (A_t : Option Addr) (c_t : Nat) (B_t : Option Addr) (d_t : Nat) (v_x : Value) (v_y : Value) (t : Tb) (x : Dy) (y : Dy) (w : World) (h_t1 : Sx.Rows Sx.kD (fun _ => True) w A_t t.at_.length c_t t.at_) (h_t2 : Sx.Rows Sx.kI (fun _ => True) w B_t t.v.length d_t t.v) (h_x : RdD w v_x x) (h_y : RdD w v_y y) :
    Calls Tryz.prog 30 #[.agg #[.slice A_t t.at_.length c_t, .slice B_t t.v.length d_t], v_x, v_y] w fun e w' => TbTup w w' e (cutT t x y) ∧ Below w.heap.size w w' := by
  have r_x := h_x
  obtain ⟨A_x, n_x, c_x, rfl, _⟩ := h_x
  have r_y := h_y
  obtain ⟨A_y, n_y, c_y, rfl, _⟩ := h_y
  have F_t1 := h_t1.start
  have M_t1 := h_t1.le
  clear h_t1
  have F_t2 := h_t2.start
  have M_t2 := h_t2.le
  clear h_t2
  refine (Sx.runA [] [4] (ls := [.slice A_t t.at_.length c_t, .slice B_t t.v.length d_t, .bool x.neg, .slice A_x n_x c_x, .int .i64 x.e, .bool y.neg, .slice A_y n_y c_y, .int .i64 y.e]) (shs := [(true, 2), (true, 3), (true, 3)]) (R := fun v w' => TbTup w w' (.returned v) (cutT t x y)) tr_r11cut_eq rfl (by decide) (fun q h => by cases h) ?_).mono (fun e w' ⟨v, he, hv, hb⟩ => ⟨by rw [he]; exact hv, hb⟩)
  unfold tr_r11cut
  refine sat_chkB (by kernel_rfl) ?_
  refine sat_chkB (by kernel_rfl) ?_
  refine sat_chkB (by kernel_rfl) ?_
  refine sat_call #[.agg #[.slice A_t t.at_.length c_t, .slice B_t t.v.length d_t]] (by kernel_rfl) fun w1 h1 => ?_
  refine (rmayT_any _ _ _ _ t _ ((F_t1.mv h1.mv).any) ((F_t2.mv h1.mv).any)).mono ?_
  rintro e v1 ⟨rfl, hb1⟩
  refine ⟨hb1, [.bool (mayT t)], _, rfl, by kernel_rfl, by kernel_rfl, fun g1 => ?_⟩
  replace F_t1 := F_t1.mv g1.mv; replace F_t2 := F_t2.mv g1.mv; replace r_x := g1.rdD r_x; replace r_y := g1.rdD r_y
  clear h1 hb1
  refine sat_prim (v := .bool (!(mayT t))) (by kernel_rfl) ?_
  cases hMT : (mayT t)
  · refine sat_true (by kernel_rfl) ?_
    exact sat_ret (.tuple #[.agg #[.slice none 0 0, .slice none 0 0], .int .i64 1]) (by kernel_rfl) fun w9 h9 => TbTup.nil (by unfold cutT; rw [hMT]; rfl)
  · refine sat_false (by kernel_rfl) ?_
    refine sat_call #[.agg #[.bool x.neg, .slice A_x n_x c_x, .int .i64 x.e]] (by kernel_rfl) fun w3 h3 => ?_
    refine (rmayD_any _ (x) _ (h3.rdD r_x)).mono ?_
    rintro e v3 ⟨rfl, hb3⟩
    refine ⟨hb3, [.bool (mayD x)], _, rfl, by kernel_rfl, by kernel_rfl, fun g3 => ?_⟩
    replace F_t1 := F_t1.mv g3.mv; replace F_t2 := F_t2.mv g3.mv; replace r_x := g3.rdD r_x; replace r_y := g3.rdD r_y
    clear h3 hb3
    refine sat_prim (v := .bool (!(mayD x))) (by kernel_rfl) ?_
    cases hx : (mayD x)
    · refine sat_true (by kernel_rfl) ?_
      exact sat_ret (.tuple #[.agg #[.slice none 0 0, .slice none 0 0], .int .i64 1]) (by kernel_rfl) fun w9 h9 => TbTup.nil (by unfold cutT; rw [hMT, hx]; rfl)
    · refine sat_false (by kernel_rfl) ?_
      refine sat_call #[.agg #[.bool y.neg, .slice A_y n_y c_y, .int .i64 y.e]] (by kernel_rfl) fun w5 h5 => ?_
      refine (rmayD_any _ (y) _ (h5.rdD r_y)).mono ?_
      rintro e v5 ⟨rfl, hb5⟩
      refine ⟨hb5, [.bool (mayD y)], _, rfl, by kernel_rfl, by kernel_rfl, fun g5 => ?_⟩
      replace F_t1 := F_t1.mv g5.mv; replace F_t2 := F_t2.mv g5.mv; replace r_x := g5.rdD r_x; replace r_y := g5.rdD r_y
      clear h5 hb5
      refine sat_prim (v := .bool (!(mayD y))) (by kernel_rfl) ?_
      cases hy : (mayD y)
      · refine sat_true (by kernel_rfl) ?_
        exact sat_ret (.tuple #[.agg #[.slice none 0 0, .slice none 0 0], .int .i64 1]) (by kernel_rfl) fun w9 h9 => TbTup.nil (by unfold cutT; rw [hMT, hx, hy]; rfl)
      · refine sat_false (by kernel_rfl) ?_
        refine sat_call #[.agg #[.bool x.neg, .slice A_x n_x c_x, .int .i64 x.e], .agg #[.bool y.neg, .slice A_y n_y c_y, .int .i64 y.e]] (by kernel_rfl) fun w7 h7 => ?_
        refine (less_any _ _ (x) (y) _ (h7.rdD r_x) (h7.rdD r_y)).mono ?_
        rw [lt_ge (x) (y)]
        rintro e v7 ⟨rfl, hb7⟩
        refine ⟨hb7, [.bool (!(decide (0 ≤ cmpD x y)))], _, rfl, by kernel_rfl, by kernel_rfl, fun g7 => ?_⟩
        replace F_t1 := F_t1.mv g7.mv; replace F_t2 := F_t2.mv g7.mv; replace r_x := g7.rdD r_x; replace r_y := g7.rdD r_y
        clear h7 hb7
        refine sat_prim (v := .bool (!(!(decide (0 ≤ cmpD x y))))) (by kernel_rfl) ?_
        cases hxy : (decide (0 ≤ cmpD x y))
        · refine sat_false (by kernel_rfl) ?_
          refine sat_call #[.agg #[.slice A_t t.at_.length c_t, .slice B_t t.v.length d_t], .agg #[.bool x.neg, .slice A_x n_x c_x, .int .i64 x.e]] (by kernel_rfl) fun w9 h9 => ?_
          refine (rinT_any _ _ _ _ _ t (x) _ ((F_t1.mv h9.mv).any) ((F_t2.mv h9.mv).any) (h9.rdD r_x) hMT hx).mono ?_
          rintro e v9 ⟨rfl, hb9⟩
          refine ⟨hb9, [.bool (holdsT t x)], _, rfl, by kernel_rfl, by kernel_rfl, fun g9 => ?_⟩
          replace F_t1 := F_t1.mv g9.mv; replace F_t2 := F_t2.mv g9.mv; replace r_x := g9.rdD r_x; replace r_y := g9.rdD r_y
          clear h9 hb9
          refine sat_prim (v := .bool (!(holdsT t x))) (by kernel_rfl) ?_
          cases hhx : (holdsT t x)
          · refine sat_true (by kernel_rfl) ?_
            exact sat_ret (.tuple #[.agg #[.slice none 0 0, .slice none 0 0], .int .i64 5]) (by kernel_rfl) fun w9 h9 => TbTup.nil (by unfold cutT; rw [hMT, hx, hy, hxy, hhx]; rfl)
          · refine sat_false (by kernel_rfl) ?_
            refine sat_call #[.agg #[.slice A_t t.at_.length c_t, .slice B_t t.v.length d_t], .agg #[.bool y.neg, .slice A_y n_y c_y, .int .i64 y.e]] (by kernel_rfl) fun w11 h11 => ?_
            refine (rinT_any _ _ _ _ _ t (y) _ ((F_t1.mv h11.mv).any) ((F_t2.mv h11.mv).any) (h11.rdD r_y) hMT hy).mono ?_
            rintro e v11 ⟨rfl, hb11⟩
            refine ⟨hb11, [.bool (holdsT t y)], _, rfl, by kernel_rfl, by kernel_rfl, fun g11 => ?_⟩
            replace F_t1 := F_t1.mv g11.mv; replace F_t2 := F_t2.mv g11.mv; replace r_x := g11.rdD r_x; replace r_y := g11.rdD r_y
            clear h11 hb11
            refine sat_prim (v := .bool (!(holdsT t y))) (by kernel_rfl) ?_
            cases hhy : (holdsT t y)
            · refine sat_true (by kernel_rfl) ?_
              exact sat_ret (.tuple #[.agg #[.slice none 0 0, .slice none 0 0], .int .i64 5]) (by kernel_rfl) fun w9 h9 => TbTup.nil (by unfold cutT; rw [hMT, hx, hy, hxy, hhx, hhy]; rfl)
            · refine sat_false (by kernel_rfl) ?_
              refine Sx.sat_rowB [.bool x.neg, .slice A_x n_x c_x, .int .i64 x.e] (by kernel_rfl) (by intro x hx; cases hx) fun u1 h1 B1 Z1 => ?_
              replace F_t1 := F_t1.mv h1.mv; replace F_t2 := F_t2.mv h1.mv; replace r_x := h1.rdD r_x; replace r_y := h1.rdD r_y
              have G_P1 : Sx.Gr Sx.kD w 30 _ (.slice (some ⟨u1.heap.size, 0, none⟩) 1 1) [x] := Sx.Gr.one (k := Sx.kD) (by decide) B1 (List.mem_cons_self ..) Z1 ⟨_, _, _, rfl, r_x⟩
              generalize u1.heap.size = N_P1 at *
              generalize (u1.alloc _) = w_P1 at *
              clear B1 h1 Z1
              refine sat_chkB (by kernel_rfl) ?_
              refine sat_chkB (by kernel_rfl) ?_
              refine sat_loop (fun Kn vs W => ∃ (i : Nat) (p : List Dy) (A_p : Option Addr) (c_p : Nat) (q : List Iv) (A_q : Option Addr) (c_q : Nat), vs = [.int .i64 ((i : Nat) : Int), .slice A_p p.length c_p, .slice A_q q.length c_q] ∧ Kn = t.v.length - i ∧ i ≤ t.v.length ∧ (Sx.Gr Sx.kD w 30 W (.slice A_p p.length c_p) p) ∧ (Sx.Gr Sx.kI w 49 W (.slice A_q q.length c_q) q) ∧ (Sx.Apart (.slice A_p p.length c_p) (.slice A_q q.length c_q)) ∧ (cutL t.at_ x y 0 [x] [] t.v = cutL t.at_ x y i p q (t.v.drop i)) ∧ (p.length ≤ i + 1) ∧ (q.length ≤ i)) [.int .i64 0, .slice (some ⟨N_P1, 0, none⟩) 1 1, .slice none 0 0] (by kernel_rfl) (fun w1 h1 => ⟨_, 0, [x], _, _, [], none, 0, rfl, rfl, Nat.zero_le _, G_P1.le h1, Sx.Gr.nil (by decide) _ _ _, Sx.Apart.nil, rfl, Nat.le_refl _, Nat.le_refl _⟩) ?_
              rintro Kn vs w13 h13 ⟨i, p, A_p, c_p, q, A_q, c_q, rfl, rfl, h_i, G_p, G_q, D, hm, hp, hq⟩
              replace F_t1 := F_t1.mv h13.mv; replace F_t2 := F_t2.mv h13.mv; replace r_x := h13.rdD r_x; replace r_y := h13.rdD r_y
              clear h13
              refine sat_prim (v := .int .i64 ((t.v.length : Nat) : Int)) (by kernel_rfl) ?_
              refine sat_prim (v := .bool (decide ((((i : Nat) : Int) : Int) < ((t.v.length : Nat) : Int)))) (by kernel_rfl) ?_
              cases hlt : (decide ((((i : Nat) : Int) : Int) < ((t.v.length : Nat) : Int)))
              · refine sat_false (by kernel_rfl) ?_
                refine sat_chkB (by kernel_rfl) ?_
                exact sat_ret (.tuple #[.agg #[.slice A_p p.length c_p, .slice A_q q.length c_q], .int .i64 0]) (by kernel_rfl) fun w9 h9 => ⟨p, q, 0, _, _, _, _, rfl, hide (cut_done hMT hx hy hxy hhx hhy hm hlt), (G_p.le h9).done fun h => h, (G_q.le h9).done fun h => h⟩
              · refine sat_true (by kernel_rfl) ?_
                refine sat_prim (v := .int .i64 (((i + 1 : Nat)) : Int)) (Eq.trans (b := some (.int .i64 (IntKind.i64.wrap ((((i) : Nat) : Int) + 1)))) (by kernel_rfl) (by rw [Sx.wrap_succ (n := t.v.length) (lt_of hlt) M_t2])) ?_
                refine sat_idx (A := A_t) (c := c_t) (kk := .i64) (((i + 1 : Nat))) (by kernel_rfl) (by kernel_rfl) (by have := lt_of hlt; have := (MayT.of hMT).len; omega) F_t1.addr fun g15 o15 e15 => ?_
                obtain ⟨x2, h_x2⟩ : ∃ x_, t.at_[(((i + 1 : Nat)))]? = some x_ := ⟨_, List.getElem?_eq_getElem (by have := lt_of hlt; have := (MayT.of hMT).len; omega)⟩
                refine sat_el F_t1 e15 h_x2 rfl (by kernel_rfl) (by kernel_rfl) (by kernel_rfl) ?_
                rintro _ ⟨A_L3, n_L3, c_L3, rfl, r_L3⟩
                refine sat_call #[.agg #[.bool x.neg, .slice A_x n_x c_x, .int .i64 x.e], .agg #[.bool x2.neg, .slice A_L3 n_L3 c_L3, .int .i64 x2.e]] (by kernel_rfl) fun w16 h16 => ?_
                refine (less_any _ _ (x) (x2) _ (h16.rdD r_x) (h16.rdD r_L3)).mono ?_
                rw [lt_le r_x.lim r_L3.lim]
                rintro e v16 ⟨rfl, hb16⟩
                refine ⟨hb16, [.bool (!(decide (cmpD x2 x ≤ 0)))], _, rfl, by kernel_rfl, by kernel_rfl, fun g16 => ?_⟩
                replace F_t1 := F_t1.mv g16.mv; replace F_t2 := F_t2.mv g16.mv; replace r_x := g16.rdD r_x; replace r_y := g16.rdD r_y; replace G_p := G_p.le g16; replace G_q := G_q.le g16; replace r_L3 := g16.rdD r_L3
                clear h16 hb16
                refine sat_prim (v := .bool (!(!(decide (cmpD x2 x ≤ 0))))) (by kernel_rfl) ?_
                cases hc1 : (decide (cmpD x2 x ≤ 0))
                · refine sat_false (by kernel_rfl) ?_
                  refine sat_idx (A := A_t) (c := c_t) (kk := .i64) (i) (by kernel_rfl) (by kernel_rfl) (by have := lt_of hlt; have := (MayT.of hMT).len; omega) F_t1.addr fun g18 o18 e18 => ?_
                  obtain ⟨x4, h_x4⟩ : ∃ x_, t.at_[(i)]? = some x_ := ⟨_, List.getElem?_eq_getElem (by have := lt_of hlt; have := (MayT.of hMT).len; omega)⟩
                  refine sat_el F_t1 e18 h_x4 rfl (by kernel_rfl) (by kernel_rfl) (by kernel_rfl) ?_
                  rintro _ ⟨A_L5, n_L5, c_L5, rfl, r_L5⟩
                  refine sat_call #[.agg #[.bool x4.neg, .slice A_L5 n_L5 c_L5, .int .i64 x4.e], .agg #[.bool y.neg, .slice A_y n_y c_y, .int .i64 y.e]] (by kernel_rfl) fun w19 h19 => ?_
                  refine (less_any _ _ (x4) (y) _ (h19.rdD r_L5) (h19.rdD r_y)).mono ?_
                  rw [lt_ge (x4) (y)]
                  rintro e v19 ⟨rfl, hb19⟩
                  refine ⟨hb19, [.bool (!(decide (0 ≤ cmpD x4 y)))], _, rfl, by kernel_rfl, by kernel_rfl, fun g19 => ?_⟩
                  replace F_t1 := F_t1.mv g19.mv; replace F_t2 := F_t2.mv g19.mv; replace r_x := g19.rdD r_x; replace r_y := g19.rdD r_y; replace G_p := G_p.le g19; replace G_q := G_q.le g19; replace r_L3 := g19.rdD r_L3; replace r_L5 := g19.rdD r_L5
                  clear h19 hb19
                  refine sat_prim (v := .bool (!(!(decide (0 ≤ cmpD x4 y))))) (by kernel_rfl) ?_
                  cases hc2 : (decide (0 ≤ cmpD x4 y))
                  · refine sat_false (by kernel_rfl) ?_
                    refine sat_prim (v := .int .i64 (((i + 1 : Nat)) : Int)) (Eq.trans (b := some (.int .i64 (IntKind.i64.wrap ((((i) : Nat) : Int) + 1)))) (by kernel_rfl) (by rw [Sx.wrap_succ (n := t.v.length) (lt_of hlt) M_t2])) ?_
                    refine sat_idx (A := A_t) (c := c_t) (kk := .i64) (((i + 1 : Nat))) (by kernel_rfl) (by kernel_rfl) (by have := lt_of hlt; have := (MayT.of hMT).len; omega) F_t1.addr fun g21 o21 e21 => ?_
                    refine sat_el F_t1 e21 h_x2 rfl (by kernel_rfl) (by kernel_rfl) (by kernel_rfl) ?_
                    rintro _ ⟨A_L6, n_L6, c_L6, rfl, r_L6⟩
                    refine sat_chkB (by kernel_rfl) ?_
                    refine sat_call #[.agg #[.bool y.neg, .slice A_y n_y c_y, .int .i64 y.e], .agg #[.bool x2.neg, .slice A_L6 n_L6 c_L6, .int .i64 x2.e]] (by kernel_rfl) fun w22 h22 => ?_
                    refine (less_any _ _ (y) (x2) _ (h22.rdD r_y) (h22.rdD r_L6)).mono ?_
                    rw [lt_gt r_y.lim r_L6.lim]
                    rintro e v22 ⟨rfl, hb22⟩
                    refine ⟨hb22, [.bool (decide (0 < cmpD x2 y))], _, rfl, by kernel_rfl, by kernel_rfl, fun g22 => ?_⟩
                    replace F_t1 := F_t1.mv g22.mv; replace F_t2 := F_t2.mv g22.mv; replace r_x := g22.rdD r_x; replace r_y := g22.rdD r_y; replace G_p := G_p.le g22; replace G_q := G_q.le g22; replace r_L3 := g22.rdD r_L3; replace r_L5 := g22.rdD r_L5; replace r_L6 := g22.rdD r_L6
                    clear h22 hb22
                    cases hc3 : (decide (0 < cmpD x2 y))
                    · refine sat_false (by kernel_rfl) ?_
                      refine sat_idx (A := B_t) (c := d_t) (kk := .i64) (i) (by kernel_rfl) (by kernel_rfl) (lt_of hlt) F_t2.addr fun g24 o24 e24 => ?_
                      obtain ⟨x7, h_x7⟩ : ∃ x_, t.v[(i)]? = some x_ := ⟨_, List.getElem?_eq_getElem (lt_of hlt)⟩
                      refine sat_el F_t2 e24 h_x7 rfl (by kernel_rfl) (by kernel_rfl) (by kernel_rfl) ?_
                      rintro _ ⟨A_L8, n_L8, c_L8, B_L8, m_L8, k_L8, rfl, r_L8l, r_L8h⟩
                      refine sat_alt ?_ ?_
                      · refine sat_rowN [.bool x2.neg, .slice A_L6 n_L6 c_L6, .int .i64 x2.e] (by kernel_rfl) (by intro x hx; cases hx) fun u1 h1 B1 NB1 => ?_
                        replace F_t1 := F_t1.mv h1.mv; replace F_t2 := F_t2.mv h1.mv; replace r_x := h1.rdD r_x; replace r_y := h1.rdD r_y; replace G_p := G_p.le h1; replace G_q := G_q.le h1; replace r_L3 := h1.rdD r_L3; replace r_L5 := h1.rdD r_L5; replace r_L6 := h1.rdD r_L6; replace r_L8l := h1.rdD r_L8l; replace r_L8h := h1.rdD r_L8h
                        have F_R9 : Sx.Rows Sx.kD (Sx.NB _) _ (some ⟨u1.heap.size, 0, none⟩) 1 1 [x2] := rows_one (k := Sx.kD) B1 NB1 ⟨_, _, _, rfl, r_L6⟩
                        generalize u1.heap.size = N_R9 at *
                        generalize (u1.alloc _) = w_R9 at *
                        clear B1 h1 NB1
                        refine sat_alt ?_ ?_
                        · refine sat_app (.slice A_p p.length c_p) (.slice (some ⟨N_R9, 0, none⟩) 1 1) (by kernel_rfl) (by kernel_rfl) fun w25 h25 => ?_
                          refine (G_p.le h25).app (l' := [x2]) (F_R9.mv h25.mv) (by have := lt_of hlt; have := (MayT.of hMT).few; simp only [List.length_cons, List.length_nil, maxLen]; omega) (by have := lt_of hlt; have := (MayT.of hMT).few; simp only [List.length_cons, List.length_nil]; omega) fun A_G10 c_G10 v25 a25 G10 => ?_
                          have Q25 := (G_q.le h25).other a25 D h25.wf
                          replace G_q := Q25.1
                          replace D := Q25.2
                          replace F_t1 := F_t1.mv h25.mv; replace F_t2 := F_t2.mv h25.mv; replace r_x := h25.rdD r_x; replace r_y := h25.rdD r_y; replace r_L3 := h25.rdD r_L3; replace r_L5 := h25.rdD r_L5; replace r_L6 := h25.rdD r_L6; replace r_L8l := h25.rdD r_L8l; replace r_L8h := h25.rdD r_L8h; replace F_R9 := F_R9.mv h25.mv
                          replace F_t1 := F_t1.mv a25.toLf.mv; replace F_t2 := F_t2.mv a25.toLf.mv; replace r_x := a25.toLf.rdD r_x; replace r_y := a25.toLf.rdD r_y; replace r_L3 := a25.toLf.rdD r_L3; replace r_L5 := a25.toLf.rdD r_L5; replace r_L6 := a25.toLf.rdD r_L6; replace r_L8l := a25.toLf.rdD r_L8l; replace r_L8h := a25.toLf.rdD r_L8h; replace F_R9 := F_R9.mv a25.toLf.mv
                          clear h25 a25 G_p Q25
                          refine sat_rowN [.bool x7.lo.neg, .slice A_L8 n_L8 c_L8, .int .i64 x7.lo.e, .bool x7.hi.neg, .slice B_L8 m_L8 k_L8, .int .i64 x7.hi.e] (by kernel_rfl) (by intro x hx; cases hx) fun u1 h1 B1 NB1 => ?_
                          replace F_t1 := F_t1.mv h1.mv; replace F_t2 := F_t2.mv h1.mv; replace r_x := h1.rdD r_x; replace r_y := h1.rdD r_y; replace r_L3 := h1.rdD r_L3; replace r_L5 := h1.rdD r_L5; replace r_L6 := h1.rdD r_L6; replace r_L8l := h1.rdD r_L8l; replace r_L8h := h1.rdD r_L8h; replace F_R9 := F_R9.mv h1.mv; replace G_q := G_q.le h1; replace G10 := G10.le h1
                          have F_R11 : Sx.Rows Sx.kI (Sx.NB _) _ (some ⟨u1.heap.size, 0, none⟩) 1 1 [x7] := rows_one (k := Sx.kI) B1 NB1 ⟨_, _, _, _, _, _, rfl, r_L8l, r_L8h⟩
                          generalize u1.heap.size = N_R11 at *
                          generalize (u1.alloc _) = w_R11 at *
                          clear B1 h1 NB1
                          refine sat_app (.slice A_q q.length c_q) (.slice (some ⟨N_R11, 0, none⟩) 1 1) (by kernel_rfl) (by kernel_rfl) fun w26 h26 => ?_
                          refine (G_q.le h26).app (l' := [x7]) (F_R11.mv h26.mv) (by have := lt_of hlt; have := (MayT.of hMT).few; simp only [List.length_cons, List.length_nil, maxLen]; omega) (by have := lt_of hlt; have := (MayT.of hMT).few; simp only [List.length_cons, List.length_nil]; omega) fun A_G12 c_G12 v26 a26 G12 => ?_
                          have Q26 := (G10.le h26).other a26 D.symm h26.wf
                          replace G10 := Q26.1
                          replace D := Q26.2.symm
                          replace F_t1 := F_t1.mv h26.mv; replace F_t2 := F_t2.mv h26.mv; replace r_x := h26.rdD r_x; replace r_y := h26.rdD r_y; replace r_L3 := h26.rdD r_L3; replace r_L5 := h26.rdD r_L5; replace r_L6 := h26.rdD r_L6; replace r_L8l := h26.rdD r_L8l; replace r_L8h := h26.rdD r_L8h; replace F_R9 := F_R9.mv h26.mv; replace F_R11 := F_R11.mv h26.mv
                          replace F_t1 := F_t1.mv a26.toLf.mv; replace F_t2 := F_t2.mv a26.toLf.mv; replace r_x := a26.toLf.rdD r_x; replace r_y := a26.toLf.rdD r_y; replace r_L3 := a26.toLf.rdD r_L3; replace r_L5 := a26.toLf.rdD r_L5; replace r_L6 := a26.toLf.rdD r_L6; replace r_L8l := a26.toLf.rdD r_L8l; replace r_L8h := a26.toLf.rdD r_L8h; replace F_R9 := F_R9.mv a26.toLf.mv; replace F_R11 := F_R11.mv a26.toLf.mv
                          clear h26 a26 G_q Q26
                          refine sat_chkB (by kernel_rfl) ?_
                          refine sat_chkB (by kernel_rfl) ?_
                          refine sat_prim (v := .int .i64 (((i + 1 : Nat)) : Int)) (Eq.trans (b := some (.int .i64 (IntKind.i64.wrap ((((i) : Nat) : Int) + 1)))) (by kernel_rfl) (by rw [Sx.wrap_succ (n := t.v.length) (lt_of hlt) M_t2])) ?_
                          exact sat_back [.int .i64 (((i + 1 : Nat)) : Int), .slice A_G10 (p ++ [x2]).length c_G10, .slice A_G12 (q ++ [x7]).length c_G12] (by kernel_rfl) fun w9 h9 => ⟨_, by have := lt_of hlt; omega, i + 1, (p ++ [x2]), _, _, (q ++ [x7]), _, _, rfl, rfl, by have := lt_of hlt; omega, G10.le h9, G12.le h9, D, cut_take hm h_x7 (ck2 h_x2 hc1 h_x4 hc2) h_x2 hc3, by rw [List.length_append]; simp only [List.length_cons, List.length_nil]; omega, by rw [List.length_append]; simp only [List.length_cons, List.length_nil]; omega⟩
                        · refine sat_rowN [.bool x7.lo.neg, .slice A_L8 n_L8 c_L8, .int .i64 x7.lo.e, .bool x7.hi.neg, .slice B_L8 m_L8 k_L8, .int .i64 x7.hi.e] (by kernel_rfl) (by intro x hx; cases hx) fun u1 h1 B1 NB1 => ?_
                          replace F_t1 := F_t1.mv h1.mv; replace F_t2 := F_t2.mv h1.mv; replace r_x := h1.rdD r_x; replace r_y := h1.rdD r_y; replace G_p := G_p.le h1; replace G_q := G_q.le h1; replace r_L3 := h1.rdD r_L3; replace r_L5 := h1.rdD r_L5; replace r_L6 := h1.rdD r_L6; replace r_L8l := h1.rdD r_L8l; replace r_L8h := h1.rdD r_L8h; replace F_R9 := F_R9.mv h1.mv
                          have F_R10 : Sx.Rows Sx.kI (Sx.NB _) _ (some ⟨u1.heap.size, 0, none⟩) 1 1 [x7] := rows_one (k := Sx.kI) B1 NB1 ⟨_, _, _, _, _, _, rfl, r_L8l, r_L8h⟩
                          generalize u1.heap.size = N_R10 at *
                          generalize (u1.alloc _) = w_R10 at *
                          clear B1 h1 NB1
                          refine sat_app (.slice A_p p.length c_p) (.slice (some ⟨N_R9, 0, none⟩) 1 1) (by kernel_rfl) (by kernel_rfl) fun w25 h25 => ?_
                          refine (G_p.le h25).app (l' := [x2]) (F_R9.mv h25.mv) (by have := lt_of hlt; have := (MayT.of hMT).few; simp only [List.length_cons, List.length_nil, maxLen]; omega) (by have := lt_of hlt; have := (MayT.of hMT).few; simp only [List.length_cons, List.length_nil]; omega) fun A_G11 c_G11 v25 a25 G11 => ?_
                          have Q25 := (G_q.le h25).other a25 D h25.wf
                          replace G_q := Q25.1
                          replace D := Q25.2
                          replace F_t1 := F_t1.mv h25.mv; replace F_t2 := F_t2.mv h25.mv; replace r_x := h25.rdD r_x; replace r_y := h25.rdD r_y; replace r_L3 := h25.rdD r_L3; replace r_L5 := h25.rdD r_L5; replace r_L6 := h25.rdD r_L6; replace r_L8l := h25.rdD r_L8l; replace r_L8h := h25.rdD r_L8h; replace F_R9 := F_R9.mv h25.mv; replace F_R10 := F_R10.mv h25.mv
                          replace F_t1 := F_t1.mv a25.toLf.mv; replace F_t2 := F_t2.mv a25.toLf.mv; replace r_x := a25.toLf.rdD r_x; replace r_y := a25.toLf.rdD r_y; replace r_L3 := a25.toLf.rdD r_L3; replace r_L5 := a25.toLf.rdD r_L5; replace r_L6 := a25.toLf.rdD r_L6; replace r_L8l := a25.toLf.rdD r_L8l; replace r_L8h := a25.toLf.rdD r_L8h; replace F_R9 := F_R9.mv a25.toLf.mv; replace F_R10 := F_R10.mv a25.toLf.mv
                          clear h25 a25 G_p Q25
                          refine sat_app (.slice A_q q.length c_q) (.slice (some ⟨N_R10, 0, none⟩) 1 1) (by kernel_rfl) (by kernel_rfl) fun w26 h26 => ?_
                          refine (G_q.le h26).app (l' := [x7]) (F_R10.mv h26.mv) (by have := lt_of hlt; have := (MayT.of hMT).few; simp only [List.length_cons, List.length_nil, maxLen]; omega) (by have := lt_of hlt; have := (MayT.of hMT).few; simp only [List.length_cons, List.length_nil]; omega) fun A_G12 c_G12 v26 a26 G12 => ?_
                          have Q26 := (G11.le h26).other a26 D.symm h26.wf
                          replace G11 := Q26.1
                          replace D := Q26.2.symm
                          replace F_t1 := F_t1.mv h26.mv; replace F_t2 := F_t2.mv h26.mv; replace r_x := h26.rdD r_x; replace r_y := h26.rdD r_y; replace r_L3 := h26.rdD r_L3; replace r_L5 := h26.rdD r_L5; replace r_L6 := h26.rdD r_L6; replace r_L8l := h26.rdD r_L8l; replace r_L8h := h26.rdD r_L8h; replace F_R9 := F_R9.mv h26.mv; replace F_R10 := F_R10.mv h26.mv
                          replace F_t1 := F_t1.mv a26.toLf.mv; replace F_t2 := F_t2.mv a26.toLf.mv; replace r_x := a26.toLf.rdD r_x; replace r_y := a26.toLf.rdD r_y; replace r_L3 := a26.toLf.rdD r_L3; replace r_L5 := a26.toLf.rdD r_L5; replace r_L6 := a26.toLf.rdD r_L6; replace r_L8l := a26.toLf.rdD r_L8l; replace r_L8h := a26.toLf.rdD r_L8h; replace F_R9 := F_R9.mv a26.toLf.mv; replace F_R10 := F_R10.mv a26.toLf.mv
                          clear h26 a26 G_q Q26
                          refine sat_chkB (by kernel_rfl) ?_
                          refine sat_chkB (by kernel_rfl) ?_
                          refine sat_prim (v := .int .i64 (((i + 1 : Nat)) : Int)) (Eq.trans (b := some (.int .i64 (IntKind.i64.wrap ((((i) : Nat) : Int) + 1)))) (by kernel_rfl) (by rw [Sx.wrap_succ (n := t.v.length) (lt_of hlt) M_t2])) ?_
                          exact sat_back [.int .i64 (((i + 1 : Nat)) : Int), .slice A_G11 (p ++ [x2]).length c_G11, .slice A_G12 (q ++ [x7]).length c_G12] (by kernel_rfl) fun w9 h9 => ⟨_, by have := lt_of hlt; omega, i + 1, (p ++ [x2]), _, _, (q ++ [x7]), _, _, rfl, rfl, by have := lt_of hlt; omega, G11.le h9, G12.le h9, D, cut_take hm h_x7 (ck2 h_x2 hc1 h_x4 hc2) h_x2 hc3, by rw [List.length_append]; simp only [List.length_cons, List.length_nil]; omega, by rw [List.length_append]; simp only [List.length_cons, List.length_nil]; omega⟩
                      · refine sat_rowN [.bool x7.lo.neg, .slice A_L8 n_L8 c_L8, .int .i64 x7.lo.e, .bool x7.hi.neg, .slice B_L8 m_L8 k_L8, .int .i64 x7.hi.e] (by kernel_rfl) (by intro x hx; cases hx) fun u1 h1 B1 NB1 => ?_
                        replace F_t1 := F_t1.mv h1.mv; replace F_t2 := F_t2.mv h1.mv; replace r_x := h1.rdD r_x; replace r_y := h1.rdD r_y; replace G_p := G_p.le h1; replace G_q := G_q.le h1; replace r_L3 := h1.rdD r_L3; replace r_L5 := h1.rdD r_L5; replace r_L6 := h1.rdD r_L6; replace r_L8l := h1.rdD r_L8l; replace r_L8h := h1.rdD r_L8h
                        have F_R9 : Sx.Rows Sx.kI (Sx.NB _) _ (some ⟨u1.heap.size, 0, none⟩) 1 1 [x7] := rows_one (k := Sx.kI) B1 NB1 ⟨_, _, _, _, _, _, rfl, r_L8l, r_L8h⟩
                        generalize u1.heap.size = N_R9 at *
                        generalize (u1.alloc _) = w_R9 at *
                        clear B1 h1 NB1
                        refine sat_rowN [.bool x2.neg, .slice A_L6 n_L6 c_L6, .int .i64 x2.e] (by kernel_rfl) (by intro x hx; cases hx) fun u1 h1 B1 NB1 => ?_
                        replace F_t1 := F_t1.mv h1.mv; replace F_t2 := F_t2.mv h1.mv; replace r_x := h1.rdD r_x; replace r_y := h1.rdD r_y; replace G_p := G_p.le h1; replace G_q := G_q.le h1; replace r_L3 := h1.rdD r_L3; replace r_L5 := h1.rdD r_L5; replace r_L6 := h1.rdD r_L6; replace r_L8l := h1.rdD r_L8l; replace r_L8h := h1.rdD r_L8h; replace F_R9 := F_R9.mv h1.mv
                        have F_R10 : Sx.Rows Sx.kD (Sx.NB _) _ (some ⟨u1.heap.size, 0, none⟩) 1 1 [x2] := rows_one (k := Sx.kD) B1 NB1 ⟨_, _, _, rfl, r_L6⟩
                        generalize u1.heap.size = N_R10 at *
                        generalize (u1.alloc _) = w_R10 at *
                        clear B1 h1 NB1
                        refine sat_app (.slice A_p p.length c_p) (.slice (some ⟨N_R10, 0, none⟩) 1 1) (by kernel_rfl) (by kernel_rfl) fun w25 h25 => ?_
                        refine (G_p.le h25).app (l' := [x2]) (F_R10.mv h25.mv) (by have := lt_of hlt; have := (MayT.of hMT).few; simp only [List.length_cons, List.length_nil, maxLen]; omega) (by have := lt_of hlt; have := (MayT.of hMT).few; simp only [List.length_cons, List.length_nil]; omega) fun A_G11 c_G11 v25 a25 G11 => ?_
                        have Q25 := (G_q.le h25).other a25 D h25.wf
                        replace G_q := Q25.1
                        replace D := Q25.2
                        replace F_t1 := F_t1.mv h25.mv; replace F_t2 := F_t2.mv h25.mv; replace r_x := h25.rdD r_x; replace r_y := h25.rdD r_y; replace r_L3 := h25.rdD r_L3; replace r_L5 := h25.rdD r_L5; replace r_L6 := h25.rdD r_L6; replace r_L8l := h25.rdD r_L8l; replace r_L8h := h25.rdD r_L8h; replace F_R9 := F_R9.mv h25.mv; replace F_R10 := F_R10.mv h25.mv
                        replace F_t1 := F_t1.mv a25.toLf.mv; replace F_t2 := F_t2.mv a25.toLf.mv; replace r_x := a25.toLf.rdD r_x; replace r_y := a25.toLf.rdD r_y; replace r_L3 := a25.toLf.rdD r_L3; replace r_L5 := a25.toLf.rdD r_L5; replace r_L6 := a25.toLf.rdD r_L6; replace r_L8l := a25.toLf.rdD r_L8l; replace r_L8h := a25.toLf.rdD r_L8h; replace F_R9 := F_R9.mv a25.toLf.mv; replace F_R10 := F_R10.mv a25.toLf.mv
                        clear h25 a25 G_p Q25
                        refine sat_app (.slice A_q q.length c_q) (.slice (some ⟨N_R9, 0, none⟩) 1 1) (by kernel_rfl) (by kernel_rfl) fun w26 h26 => ?_
                        refine (G_q.le h26).app (l' := [x7]) (F_R9.mv h26.mv) (by have := lt_of hlt; have := (MayT.of hMT).few; simp only [List.length_cons, List.length_nil, maxLen]; omega) (by have := lt_of hlt; have := (MayT.of hMT).few; simp only [List.length_cons, List.length_nil]; omega) fun A_G12 c_G12 v26 a26 G12 => ?_
                        have Q26 := (G11.le h26).other a26 D.symm h26.wf
                        replace G11 := Q26.1
                        replace D := Q26.2.symm
                        replace F_t1 := F_t1.mv h26.mv; replace F_t2 := F_t2.mv h26.mv; replace r_x := h26.rdD r_x; replace r_y := h26.rdD r_y; replace r_L3 := h26.rdD r_L3; replace r_L5 := h26.rdD r_L5; replace r_L6 := h26.rdD r_L6; replace r_L8l := h26.rdD r_L8l; replace r_L8h := h26.rdD r_L8h; replace F_R9 := F_R9.mv h26.mv; replace F_R10 := F_R10.mv h26.mv
                        replace F_t1 := F_t1.mv a26.toLf.mv; replace F_t2 := F_t2.mv a26.toLf.mv; replace r_x := a26.toLf.rdD r_x; replace r_y := a26.toLf.rdD r_y; replace r_L3 := a26.toLf.rdD r_L3; replace r_L5 := a26.toLf.rdD r_L5; replace r_L6 := a26.toLf.rdD r_L6; replace r_L8l := a26.toLf.rdD r_L8l; replace r_L8h := a26.toLf.rdD r_L8h; replace F_R9 := F_R9.mv a26.toLf.mv; replace F_R10 := F_R10.mv a26.toLf.mv
                        clear h26 a26 G_q Q26
                        refine sat_chkB (by kernel_rfl) ?_
                        refine sat_chkB (by kernel_rfl) ?_
                        refine sat_prim (v := .int .i64 (((i + 1 : Nat)) : Int)) (Eq.trans (b := some (.int .i64 (IntKind.i64.wrap ((((i) : Nat) : Int) + 1)))) (by kernel_rfl) (by rw [Sx.wrap_succ (n := t.v.length) (lt_of hlt) M_t2])) ?_
                        exact sat_back [.int .i64 (((i + 1 : Nat)) : Int), .slice A_G11 (p ++ [x2]).length c_G11, .slice A_G12 (q ++ [x7]).length c_G12] (by kernel_rfl) fun w9 h9 => ⟨_, by have := lt_of hlt; omega, i + 1, (p ++ [x2]), _, _, (q ++ [x7]), _, _, rfl, rfl, by have := lt_of hlt; omega, G11.le h9, G12.le h9, D, cut_take hm h_x7 (ck2 h_x2 hc1 h_x4 hc2) h_x2 hc3, by rw [List.length_append]; simp only [List.length_cons, List.length_nil]; omega, by rw [List.length_append]; simp only [List.length_cons, List.length_nil]; omega⟩
                    · refine sat_true (by kernel_rfl) ?_
                      refine sat_chkB (by kernel_rfl) ?_
                      refine sat_idx (A := B_t) (c := d_t) (kk := .i64) (i) (by kernel_rfl) (by kernel_rfl) (lt_of hlt) F_t2.addr fun g24 o24 e24 => ?_
                      obtain ⟨x7, h_x7⟩ : ∃ x_, t.v[(i)]? = some x_ := ⟨_, List.getElem?_eq_getElem (lt_of hlt)⟩
                      refine sat_el F_t2 e24 h_x7 rfl (by kernel_rfl) (by kernel_rfl) (by kernel_rfl) ?_
                      rintro _ ⟨A_L8, n_L8, c_L8, B_L8, m_L8, k_L8, rfl, r_L8l, r_L8h⟩
                      refine sat_alt ?_ ?_
                      · refine sat_rowN [.bool y.neg, .slice A_y n_y c_y, .int .i64 y.e] (by kernel_rfl) (by intro x hx; cases hx) fun u1 h1 B1 NB1 => ?_
                        replace F_t1 := F_t1.mv h1.mv; replace F_t2 := F_t2.mv h1.mv; replace r_x := h1.rdD r_x; replace r_y := h1.rdD r_y; replace G_p := G_p.le h1; replace G_q := G_q.le h1; replace r_L3 := h1.rdD r_L3; replace r_L5 := h1.rdD r_L5; replace r_L6 := h1.rdD r_L6; replace r_L8l := h1.rdD r_L8l; replace r_L8h := h1.rdD r_L8h
                        have F_R9 : Sx.Rows Sx.kD (Sx.NB _) _ (some ⟨u1.heap.size, 0, none⟩) 1 1 [y] := rows_one (k := Sx.kD) B1 NB1 ⟨_, _, _, rfl, r_y⟩
                        generalize u1.heap.size = N_R9 at *
                        generalize (u1.alloc _) = w_R9 at *
                        clear B1 h1 NB1
                        refine sat_alt ?_ ?_
                        · refine sat_app (.slice A_p p.length c_p) (.slice (some ⟨N_R9, 0, none⟩) 1 1) (by kernel_rfl) (by kernel_rfl) fun w25 h25 => ?_
                          refine (G_p.le h25).app (l' := [y]) (F_R9.mv h25.mv) (by have := lt_of hlt; have := (MayT.of hMT).few; simp only [List.length_cons, List.length_nil, maxLen]; omega) (by have := lt_of hlt; have := (MayT.of hMT).few; simp only [List.length_cons, List.length_nil]; omega) fun A_G10 c_G10 v25 a25 G10 => ?_
                          have Q25 := (G_q.le h25).other a25 D h25.wf
                          replace G_q := Q25.1
                          replace D := Q25.2
                          replace F_t1 := F_t1.mv h25.mv; replace F_t2 := F_t2.mv h25.mv; replace r_x := h25.rdD r_x; replace r_y := h25.rdD r_y; replace r_L3 := h25.rdD r_L3; replace r_L5 := h25.rdD r_L5; replace r_L6 := h25.rdD r_L6; replace r_L8l := h25.rdD r_L8l; replace r_L8h := h25.rdD r_L8h; replace F_R9 := F_R9.mv h25.mv
                          replace F_t1 := F_t1.mv a25.toLf.mv; replace F_t2 := F_t2.mv a25.toLf.mv; replace r_x := a25.toLf.rdD r_x; replace r_y := a25.toLf.rdD r_y; replace r_L3 := a25.toLf.rdD r_L3; replace r_L5 := a25.toLf.rdD r_L5; replace r_L6 := a25.toLf.rdD r_L6; replace r_L8l := a25.toLf.rdD r_L8l; replace r_L8h := a25.toLf.rdD r_L8h; replace F_R9 := F_R9.mv a25.toLf.mv
                          clear h25 a25 G_p Q25
                          refine sat_rowN [.bool x7.lo.neg, .slice A_L8 n_L8 c_L8, .int .i64 x7.lo.e, .bool x7.hi.neg, .slice B_L8 m_L8 k_L8, .int .i64 x7.hi.e] (by kernel_rfl) (by intro x hx; cases hx) fun u1 h1 B1 NB1 => ?_
                          replace F_t1 := F_t1.mv h1.mv; replace F_t2 := F_t2.mv h1.mv; replace r_x := h1.rdD r_x; replace r_y := h1.rdD r_y; replace r_L3 := h1.rdD r_L3; replace r_L5 := h1.rdD r_L5; replace r_L6 := h1.rdD r_L6; replace r_L8l := h1.rdD r_L8l; replace r_L8h := h1.rdD r_L8h; replace F_R9 := F_R9.mv h1.mv; replace G_q := G_q.le h1; replace G10 := G10.le h1
                          have F_R11 : Sx.Rows Sx.kI (Sx.NB _) _ (some ⟨u1.heap.size, 0, none⟩) 1 1 [x7] := rows_one (k := Sx.kI) B1 NB1 ⟨_, _, _, _, _, _, rfl, r_L8l, r_L8h⟩
                          generalize u1.heap.size = N_R11 at *
                          generalize (u1.alloc _) = w_R11 at *
                          clear B1 h1 NB1
                          refine sat_app (.slice A_q q.length c_q) (.slice (some ⟨N_R11, 0, none⟩) 1 1) (by kernel_rfl) (by kernel_rfl) fun w26 h26 => ?_
                          refine (G_q.le h26).app (l' := [x7]) (F_R11.mv h26.mv) (by have := lt_of hlt; have := (MayT.of hMT).few; simp only [List.length_cons, List.length_nil, maxLen]; omega) (by have := lt_of hlt; have := (MayT.of hMT).few; simp only [List.length_cons, List.length_nil]; omega) fun A_G12 c_G12 v26 a26 G12 => ?_
                          have Q26 := (G10.le h26).other a26 D.symm h26.wf
                          replace G10 := Q26.1
                          replace D := Q26.2.symm
                          replace F_t1 := F_t1.mv h26.mv; replace F_t2 := F_t2.mv h26.mv; replace r_x := h26.rdD r_x; replace r_y := h26.rdD r_y; replace r_L3 := h26.rdD r_L3; replace r_L5 := h26.rdD r_L5; replace r_L6 := h26.rdD r_L6; replace r_L8l := h26.rdD r_L8l; replace r_L8h := h26.rdD r_L8h; replace F_R9 := F_R9.mv h26.mv; replace F_R11 := F_R11.mv h26.mv
                          replace F_t1 := F_t1.mv a26.toLf.mv; replace F_t2 := F_t2.mv a26.toLf.mv; replace r_x := a26.toLf.rdD r_x; replace r_y := a26.toLf.rdD r_y; replace r_L3 := a26.toLf.rdD r_L3; replace r_L5 := a26.toLf.rdD r_L5; replace r_L6 := a26.toLf.rdD r_L6; replace r_L8l := a26.toLf.rdD r_L8l; replace r_L8h := a26.toLf.rdD r_L8h; replace F_R9 := F_R9.mv a26.toLf.mv; replace F_R11 := F_R11.mv a26.toLf.mv
                          clear h26 a26 G_q Q26
                          refine sat_chkB (by kernel_rfl) ?_
                          refine sat_chkB (by kernel_rfl) ?_
                          refine sat_prim (v := .int .i64 (((i + 1 : Nat)) : Int)) (Eq.trans (b := some (.int .i64 (IntKind.i64.wrap ((((i) : Nat) : Int) + 1)))) (by kernel_rfl) (by rw [Sx.wrap_succ (n := t.v.length) (lt_of hlt) M_t2])) ?_
                          exact sat_back [.int .i64 (((i + 1 : Nat)) : Int), .slice A_G10 (p ++ [y]).length c_G10, .slice A_G12 (q ++ [x7]).length c_G12] (by kernel_rfl) fun w9 h9 => ⟨_, by have := lt_of hlt; omega, i + 1, (p ++ [y]), _, _, (q ++ [x7]), _, _, rfl, rfl, by have := lt_of hlt; omega, G10.le h9, G12.le h9, D, cut_take hm h_x7 (ck2 h_x2 hc1 h_x4 hc2) h_x2 hc3, by rw [List.length_append]; simp only [List.length_cons, List.length_nil]; omega, by rw [List.length_append]; simp only [List.length_cons, List.length_nil]; omega⟩
                        · refine sat_rowN [.bool x7.lo.neg, .slice A_L8 n_L8 c_L8, .int .i64 x7.lo.e, .bool x7.hi.neg, .slice B_L8 m_L8 k_L8, .int .i64 x7.hi.e] (by kernel_rfl) (by intro x hx; cases hx) fun u1 h1 B1 NB1 => ?_
                          replace F_t1 := F_t1.mv h1.mv; replace F_t2 := F_t2.mv h1.mv; replace r_x := h1.rdD r_x; replace r_y := h1.rdD r_y; replace G_p := G_p.le h1; replace G_q := G_q.le h1; replace r_L3 := h1.rdD r_L3; replace r_L5 := h1.rdD r_L5; replace r_L6 := h1.rdD r_L6; replace r_L8l := h1.rdD r_L8l; replace r_L8h := h1.rdD r_L8h; replace F_R9 := F_R9.mv h1.mv
                          have F_R10 : Sx.Rows Sx.kI (Sx.NB _) _ (some ⟨u1.heap.size, 0, none⟩) 1 1 [x7] := rows_one (k := Sx.kI) B1 NB1 ⟨_, _, _, _, _, _, rfl, r_L8l, r_L8h⟩
                          generalize u1.heap.size = N_R10 at *
                          generalize (u1.alloc _) = w_R10 at *
                          clear B1 h1 NB1
                          refine sat_app (.slice A_p p.length c_p) (.slice (some ⟨N_R9, 0, none⟩) 1 1) (by kernel_rfl) (by kernel_rfl) fun w25 h25 => ?_
                          refine (G_p.le h25).app (l' := [y]) (F_R9.mv h25.mv) (by have := lt_of hlt; have := (MayT.of hMT).few; simp only [List.length_cons, List.length_nil, maxLen]; omega) (by have := lt_of hlt; have := (MayT.of hMT).few; simp only [List.length_cons, List.length_nil]; omega) fun A_G11 c_G11 v25 a25 G11 => ?_
                          have Q25 := (G_q.le h25).other a25 D h25.wf
                          replace G_q := Q25.1
                          replace D := Q25.2
                          replace F_t1 := F_t1.mv h25.mv; replace F_t2 := F_t2.mv h25.mv; replace r_x := h25.rdD r_x; replace r_y := h25.rdD r_y; replace r_L3 := h25.rdD r_L3; replace r_L5 := h25.rdD r_L5; replace r_L6 := h25.rdD r_L6; replace r_L8l := h25.rdD r_L8l; replace r_L8h := h25.rdD r_L8h; replace F_R9 := F_R9.mv h25.mv; replace F_R10 := F_R10.mv h25.mv
                          replace F_t1 := F_t1.mv a25.toLf.mv; replace F_t2 := F_t2.mv a25.toLf.mv; replace r_x := a25.toLf.rdD r_x; replace r_y := a25.toLf.rdD r_y; replace r_L3 := a25.toLf.rdD r_L3; replace r_L5 := a25.toLf.rdD r_L5; replace r_L6 := a25.toLf.rdD r_L6; replace r_L8l := a25.toLf.rdD r_L8l; replace r_L8h := a25.toLf.rdD r_L8h; replace F_R9 := F_R9.mv a25.toLf.mv; replace F_R10 := F_R10.mv a25.toLf.mv
                          clear h25 a25 G_p Q25
                          refine sat_app (.slice A_q q.length c_q) (.slice (some ⟨N_R10, 0, none⟩) 1 1) (by kernel_rfl) (by kernel_rfl) fun w26 h26 => ?_
                          refine (G_q.le h26).app (l' := [x7]) (F_R10.mv h26.mv) (by have := lt_of hlt; have := (MayT.of hMT).few; simp only [List.length_cons, List.length_nil, maxLen]; omega) (by have := lt_of hlt; have := (MayT.of hMT).few; simp only [List.length_cons, List.length_nil]; omega) fun A_G12 c_G12 v26 a26 G12 => ?_
                          have Q26 := (G11.le h26).other a26 D.symm h26.wf
                          replace G11 := Q26.1
                          replace D := Q26.2.symm
                          replace F_t1 := F_t1.mv h26.mv; replace F_t2 := F_t2.mv h26.mv; replace r_x := h26.rdD r_x; replace r_y := h26.rdD r_y; replace r_L3 := h26.rdD r_L3; replace r_L5 := h26.rdD r_L5; replace r_L6 := h26.rdD r_L6; replace r_L8l := h26.rdD r_L8l; replace r_L8h := h26.rdD r_L8h; replace F_R9 := F_R9.mv h26.mv; replace F_R10 := F_R10.mv h26.mv
                          replace F_t1 := F_t1.mv a26.toLf.mv; replace F_t2 := F_t2.mv a26.toLf.mv; replace r_x := a26.toLf.rdD r_x; replace r_y := a26.toLf.rdD r_y; replace r_L3 := a26.toLf.rdD r_L3; replace r_L5 := a26.toLf.rdD r_L5; replace r_L6 := a26.toLf.rdD r_L6; replace r_L8l := a26.toLf.rdD r_L8l; replace r_L8h := a26.toLf.rdD r_L8h; replace F_R9 := F_R9.mv a26.toLf.mv; replace F_R10 := F_R10.mv a26.toLf.mv
                          clear h26 a26 G_q Q26
                          refine sat_chkB (by kernel_rfl) ?_
                          refine sat_chkB (by kernel_rfl) ?_
                          refine sat_prim (v := .int .i64 (((i + 1 : Nat)) : Int)) (Eq.trans (b := some (.int .i64 (IntKind.i64.wrap ((((i) : Nat) : Int) + 1)))) (by kernel_rfl) (by rw [Sx.wrap_succ (n := t.v.length) (lt_of hlt) M_t2])) ?_
                          exact sat_back [.int .i64 (((i + 1 : Nat)) : Int), .slice A_G11 (p ++ [y]).length c_G11, .slice A_G12 (q ++ [x7]).length c_G12] (by kernel_rfl) fun w9 h9 => ⟨_, by have := lt_of hlt; omega, i + 1, (p ++ [y]), _, _, (q ++ [x7]), _, _, rfl, rfl, by have := lt_of hlt; omega, G11.le h9, G12.le h9, D, cut_take hm h_x7 (ck2 h_x2 hc1 h_x4 hc2) h_x2 hc3, by rw [List.length_append]; simp only [List.length_cons, List.length_nil]; omega, by rw [List.length_append]; simp only [List.length_cons, List.length_nil]; omega⟩
                      · refine sat_rowN [.bool x7.lo.neg, .slice A_L8 n_L8 c_L8, .int .i64 x7.lo.e, .bool x7.hi.neg, .slice B_L8 m_L8 k_L8, .int .i64 x7.hi.e] (by kernel_rfl) (by intro x hx; cases hx) fun u1 h1 B1 NB1 => ?_
                        replace F_t1 := F_t1.mv h1.mv; replace F_t2 := F_t2.mv h1.mv; replace r_x := h1.rdD r_x; replace r_y := h1.rdD r_y; replace G_p := G_p.le h1; replace G_q := G_q.le h1; replace r_L3 := h1.rdD r_L3; replace r_L5 := h1.rdD r_L5; replace r_L6 := h1.rdD r_L6; replace r_L8l := h1.rdD r_L8l; replace r_L8h := h1.rdD r_L8h
                        have F_R9 : Sx.Rows Sx.kI (Sx.NB _) _ (some ⟨u1.heap.size, 0, none⟩) 1 1 [x7] := rows_one (k := Sx.kI) B1 NB1 ⟨_, _, _, _, _, _, rfl, r_L8l, r_L8h⟩
                        generalize u1.heap.size = N_R9 at *
                        generalize (u1.alloc _) = w_R9 at *
                        clear B1 h1 NB1
                        refine sat_rowN [.bool y.neg, .slice A_y n_y c_y, .int .i64 y.e] (by kernel_rfl) (by intro x hx; cases hx) fun u1 h1 B1 NB1 => ?_
                        replace F_t1 := F_t1.mv h1.mv; replace F_t2 := F_t2.mv h1.mv; replace r_x := h1.rdD r_x; replace r_y := h1.rdD r_y; replace G_p := G_p.le h1; replace G_q := G_q.le h1; replace r_L3 := h1.rdD r_L3; replace r_L5 := h1.rdD r_L5; replace r_L6 := h1.rdD r_L6; replace r_L8l := h1.rdD r_L8l; replace r_L8h := h1.rdD r_L8h; replace F_R9 := F_R9.mv h1.mv
                        have F_R10 : Sx.Rows Sx.kD (Sx.NB _) _ (some ⟨u1.heap.size, 0, none⟩) 1 1 [y] := rows_one (k := Sx.kD) B1 NB1 ⟨_, _, _, rfl, r_y⟩
                        generalize u1.heap.size = N_R10 at *
                        generalize (u1.alloc _) = w_R10 at *
                        clear B1 h1 NB1
                        refine sat_app (.slice A_p p.length c_p) (.slice (some ⟨N_R10, 0, none⟩) 1 1) (by kernel_rfl) (by kernel_rfl) fun w25 h25 => ?_
                        refine (G_p.le h25).app (l' := [y]) (F_R10.mv h25.mv) (by have := lt_of hlt; have := (MayT.of hMT).few; simp only [List.length_cons, List.length_nil, maxLen]; omega) (by have := lt_of hlt; have := (MayT.of hMT).few; simp only [List.length_cons, List.length_nil]; omega) fun A_G11 c_G11 v25 a25 G11 => ?_
                        have Q25 := (G_q.le h25).other a25 D h25.wf
                        replace G_q := Q25.1
                        replace D := Q25.2
                        replace F_t1 := F_t1.mv h25.mv; replace F_t2 := F_t2.mv h25.mv; replace r_x := h25.rdD r_x; replace r_y := h25.rdD r_y; replace r_L3 := h25.rdD r_L3; replace r_L5 := h25.rdD r_L5; replace r_L6 := h25.rdD r_L6; replace r_L8l := h25.rdD r_L8l; replace r_L8h := h25.rdD r_L8h; replace F_R9 := F_R9.mv h25.mv; replace F_R10 := F_R10.mv h25.mv
                        replace F_t1 := F_t1.mv a25.toLf.mv; replace F_t2 := F_t2.mv a25.toLf.mv; replace r_x := a25.toLf.rdD r_x; replace r_y := a25.toLf.rdD r_y; replace r_L3 := a25.toLf.rdD r_L3; replace r_L5 := a25.toLf.rdD r_L5; replace r_L6 := a25.toLf.rdD r_L6; replace r_L8l := a25.toLf.rdD r_L8l; replace r_L8h := a25.toLf.rdD r_L8h; replace F_R9 := F_R9.mv a25.toLf.mv; replace F_R10 := F_R10.mv a25.toLf.mv
                        clear h25 a25 G_p Q25
                        refine sat_app (.slice A_q q.length c_q) (.slice (some ⟨N_R9, 0, none⟩) 1 1) (by kernel_rfl) (by kernel_rfl) fun w26 h26 => ?_
                        refine (G_q.le h26).app (l' := [x7]) (F_R9.mv h26.mv) (by have := lt_of hlt; have := (MayT.of hMT).few; simp only [List.length_cons, List.length_nil, maxLen]; omega) (by have := lt_of hlt; have := (MayT.of hMT).few; simp only [List.length_cons, List.length_nil]; omega) fun A_G12 c_G12 v26 a26 G12 => ?_
                        have Q26 := (G11.le h26).other a26 D.symm h26.wf
                        replace G11 := Q26.1
                        replace D := Q26.2.symm
                        replace F_t1 := F_t1.mv h26.mv; replace F_t2 := F_t2.mv h26.mv; replace r_x := h26.rdD r_x; replace r_y := h26.rdD r_y; replace r_L3 := h26.rdD r_L3; replace r_L5 := h26.rdD r_L5; replace r_L6 := h26.rdD r_L6; replace r_L8l := h26.rdD r_L8l; replace r_L8h := h26.rdD r_L8h; replace F_R9 := F_R9.mv h26.mv; replace F_R10 := F_R10.mv h26.mv
                        replace F_t1 := F_t1.mv a26.toLf.mv; replace F_t2 := F_t2.mv a26.toLf.mv; replace r_x := a26.toLf.rdD r_x; replace r_y := a26.toLf.rdD r_y; replace r_L3 := a26.toLf.rdD r_L3; replace r_L5 := a26.toLf.rdD r_L5; replace r_L6 := a26.toLf.rdD r_L6; replace r_L8l := a26.toLf.rdD r_L8l; replace r_L8h := a26.toLf.rdD r_L8h; replace F_R9 := F_R9.mv a26.toLf.mv; replace F_R10 := F_R10.mv a26.toLf.mv
                        clear h26 a26 G_q Q26
                        refine sat_chkB (by kernel_rfl) ?_
                        refine sat_chkB (by kernel_rfl) ?_
                        refine sat_prim (v := .int .i64 (((i + 1 : Nat)) : Int)) (Eq.trans (b := some (.int .i64 (IntKind.i64.wrap ((((i) : Nat) : Int) + 1)))) (by kernel_rfl) (by rw [Sx.wrap_succ (n := t.v.length) (lt_of hlt) M_t2])) ?_
                        exact sat_back [.int .i64 (((i + 1 : Nat)) : Int), .slice A_G11 (p ++ [y]).length c_G11, .slice A_G12 (q ++ [x7]).length c_G12] (by kernel_rfl) fun w9 h9 => ⟨_, by have := lt_of hlt; omega, i + 1, (p ++ [y]), _, _, (q ++ [x7]), _, _, rfl, rfl, by have := lt_of hlt; omega, G11.le h9, G12.le h9, D, cut_take hm h_x7 (ck2 h_x2 hc1 h_x4 hc2) h_x2 hc3, by rw [List.length_append]; simp only [List.length_cons, List.length_nil]; omega, by rw [List.length_append]; simp only [List.length_cons, List.length_nil]; omega⟩
                  · refine sat_true (by kernel_rfl) ?_
                    refine sat_prim (v := .int .i64 (((i + 1 : Nat)) : Int)) (Eq.trans (b := some (.int .i64 (IntKind.i64.wrap ((((i) : Nat) : Int) + 1)))) (by kernel_rfl) (by rw [Sx.wrap_succ (n := t.v.length) (lt_of hlt) M_t2])) ?_
                    obtain ⟨x6, h_x6⟩ : ∃ x_, t.v[(i)]? = some x_ := ⟨_, List.getElem?_eq_getElem (lt_of hlt)⟩
                    exact sat_back [.int .i64 (((i + 1 : Nat)) : Int), .slice A_p p.length c_p, .slice A_q q.length c_q] (by kernel_rfl) fun w9 h9 => ⟨_, by have := lt_of hlt; omega, i + 1, p, _, _, q, _, _, rfl, rfl, by have := lt_of hlt; omega, G_p.le h9, G_q.le h9, D, cut_skip hm h_x6 (ck2 h_x2 hc1 h_x4 hc2), by omega, by omega⟩
                · refine sat_true (by kernel_rfl) ?_
                  refine sat_prim (v := .int .i64 (((i + 1 : Nat)) : Int)) (Eq.trans (b := some (.int .i64 (IntKind.i64.wrap ((((i) : Nat) : Int) + 1)))) (by kernel_rfl) (by rw [Sx.wrap_succ (n := t.v.length) (lt_of hlt) M_t2])) ?_
                  obtain ⟨x4, h_x4⟩ : ∃ x_, t.v[(i)]? = some x_ := ⟨_, List.getElem?_eq_getElem (lt_of hlt)⟩
                  exact sat_back [.int .i64 (((i + 1 : Nat)) : Int), .slice A_p p.length c_p, .slice A_q q.length c_q] (by kernel_rfl) fun w9 h9 => ⟨_, by have := lt_of hlt; omega, i + 1, p, _, _, q, _, _, rfl, rfl, by have := lt_of hlt; omega, G_p.le h9, G_q.le h9, D, cut_skip hm h_x4 (ck1 h_x2 hc1), by omega, by omega⟩
        · refine sat_true (by kernel_rfl) ?_
          exact sat_ret (.tuple #[.agg #[.slice none 0 0, .slice none 0 0], .int .i64 1]) (by kernel_rfl) fun w9 h9 => TbTup.nil (by unfold cutT; rw [hMT, hx, hy, hxy]; rfl)

def tr_r11cells : Sx.Tree := .chk [.lf 0, .lf 1] (.chk [.lf 2, .lf 3] (.call 69 [.ag [.lf 0, .lf 1]] .one (.prim .not [.lf 5] (.ite (.lf 6) (.ret (.one (.bit false))) (.call 69 [.ag [.lf 2, .lf 3]] .one (.prim .not [.lf 7] (.ite (.lf 8) (.ret (.one (.bit false))) (.prim (.idx 3) [.lf 0, .num .i64 0] (.load 30 (.lf 9) (.ag 3) (.prim (.idx 3) [.lf 2, .num .i64 0] (.load 30 (.lf 13) (.ag 3) (.call 87 [.ag [.lf 10, .lf 11, .lf 12], .ag [.lf 14, .lf 15, .lf 16]] .one (.prim (.bin .neq) [.lf 17, .num .i64 0] (.ite (.lf 18) (.ret (.one (.bit false))) (.prim .len [.lf 1] (.prim (.idx 3) [.lf 0, .lf 19] (.load 30 (.lf 20) (.ag 3) (.prim .len [.lf 3] (.prim (.idx 3) [.lf 2, .lf 24] (.load 30 (.lf 25) (.ag 3) (.call 87 [.ag [.lf 21, .lf 22, .lf 23], .ag [.lf 26, .lf 27, .lf 28]] .one (.prim (.bin .neq) [.lf 29, .num .i64 0] (.ite (.lf 30) (.ret (.one (.bit false))) (.loop 0 [.num .i64 0, .bit false] (.prim .len [.lf 1] (.prim (.bin .lss) [.lf 31, .lf 33] (.ite (.lf 34) (.loop 1 [.num .i64 0, .lf 32] (.prim .len [.lf 3] (.prim (.bin .lss) [.lf 35, .lf 37] (.ite (.lf 38) (.prim (.idx 3) [.lf 0, .lf 31] (.load 30 (.lf 39) (.ag 3) (.prim (.bin .add) [.lf 35, .num .i64 1] (.prim (.idx 3) [.lf 2, .lf 43] (.load 30 (.lf 44) (.ag 3) (.call 49 [.ag [.lf 40, .lf 41, .lf 42], .ag [.lf 45, .lf 46, .lf 47]] .one (.prim .not [.lf 48] (.ite (.lf 49) (.prim (.bin .add) [.lf 35, .num .i64 1] (.back 1 [.lf 50, .lf 36])) (.prim (.idx 3) [.lf 2, .lf 35] (.load 30 (.lf 50) (.ag 3) (.prim (.bin .add) [.lf 31, .num .i64 1] (.prim (.idx 3) [.lf 0, .lf 54] (.load 30 (.lf 55) (.ag 3) (.call 49 [.ag [.lf 51, .lf 52, .lf 53], .ag [.lf 56, .lf 57, .lf 58]] .one (.prim .not [.lf 59] (.ite (.lf 60) (.prim (.bin .add) [.lf 35, .num .i64 1] (.back 1 [.lf 61, .lf 36])) (.ite (.lf 4) (.prim (.idx 6) [.lf 1, .lf 31] (.load 49 (.lf 61) (.ag 6) (.prim (.idx 6) [.lf 3, .lf 35] (.load 49 (.lf 68) (.ag 6) (.call 60 [.ag [.lf 62, .lf 63, .lf 64, .lf 65, .lf 66, .lf 67], .ag [.lf 69, .lf 70, .lf 71, .lf 72, .lf 73, .lf 74]] .one (.prim .not [.lf 75] (.ite (.lf 76) (.ret (.one (.bit false))) (.prim (.idx 6) [.lf 1, .lf 31] (.load 49 (.lf 77) (.ag 6) (.prim (.idx 6) [.lf 3, .lf 35] (.load 49 (.lf 84) (.ag 6) (.call 58 [.ag [.lf 78, .lf 79, .lf 80, .lf 81, .lf 82, .lf 83], .ag [.lf 85, .lf 86, .lf 87, .lf 88, .lf 89, .lf 90]] .one (.prim .not [.lf 91] (.ite (.lf 92) (.ret (.one (.bit false))) (.prim (.bin .add) [.lf 35, .num .i64 1] (.back 1 [.lf 93, .lf 36])))))))))))))))) (.prim (.idx 6) [.lf 1, .lf 31] (.load 49 (.lf 61) (.ag 6) (.prim (.idx 6) [.lf 3, .lf 35] (.load 49 (.lf 68) (.ag 6) (.call 58 [.ag [.lf 62, .lf 63, .lf 64, .lf 65, .lf 66, .lf 67], .ag [.lf 69, .lf 70, .lf 71, .lf 72, .lf 73, .lf 74]] .one (.prim .not [.lf 75] (.ite (.lf 76) (.ret (.one (.bit false))) (.prim (.bin .add) [.lf 35, .num .i64 1] (.back 1 [.lf 77, .lf 36])))))))))))))))))))))))))) (.prim (.bin .add) [.lf 31, .num .i64 1] (.back 0 [.lf 39, .lf 36])))))) (.ret (.one (.bit true))))))))))))))))))))))))))))))
theorem tr_r11cells_eq : Sx.treeAt Tryz.prog 76 [] [] [(true, 2), (true, 2), (false, 1)] = some tr_r11cells := by kernel_rfl

set_option maxRecDepth 100000 in
set_option maxHeartbeats 4000000 in
theorem rcells_any (A_a : Option Addr) (c_a : Nat) (B_a : Option Addr) (d_a : Nat) (A_b : Option Addr) (c_b : Nat) (B_b : Option Addr) (d_b : Nat) (a : Tb) (b : Tb) (st : Bool) (w : World) (h_a1 : Sx.Rows Sx.kD (fun _ => True) w A_a a.at_.length c_a a.at_) (h_a2 : Sx.Rows Sx.kI (fun _ => True) w B_a a.v.length d_a a.v) (h_b1 : Sx.Rows Sx.kD (fun _ => True) w A_b b.at_.length c_b b.at_) (h_b2 : Sx.Rows Sx.kI (fun _ => True) w B_b b.v.length d_b b.v) :
    Calls Tryz.prog 76 #[.agg #[.slice A_a a.at_.length c_a, .slice B_a a.v.length d_a], .agg #[.slice A_b b.at_.length c_b, .slice B_b b.v.length d_b], .bool st] w fun e w' => e = .returned (.bool (besideT (fS st) a b)) ∧ Below w.heap.size w w' := by
  have F_a1 := h_a1.start
  have M_a1 := h_a1.le
  clear h_a1
  have F_a2 := h_a2.start
  have M_a2 := h_a2.le
  clear h_a2
  have F_b1 := h_b1.start
  have M_b1 := h_b1.le
  clear h_b1
  have F_b2 := h_b2.start
  have M_b2 := h_b2.le
  clear h_b2
  refine (Sx.runA [] [] (ls := [.slice A_a a.at_.length c_a, .slice B_a a.v.length d_a, .slice A_b b.at_.length c_b, .slice B_b b.v.length d_b, .bool st]) (shs := [(true, 2), (true, 2), (false, 1)]) (R := fun v _ => v = .bool (besideT (fS st) a b)) tr_r11cells_eq rfl (by decide) (fun q h => by cases h) ?_).mono (fun e w' ⟨v, he, hv, hb⟩ => ⟨by rw [he, hv], hb⟩)
  unfold tr_r11cells
  refine sat_chkB (by kernel_rfl) ?_
  refine sat_chkB (by kernel_rfl) ?_
  refine sat_call #[.agg #[.slice A_a a.at_.length c_a, .slice B_a a.v.length d_a]] (by kernel_rfl) fun w1 h1 => ?_
  refine (rmayT_any _ _ _ _ a _ ((F_a1.mv h1.mv).any) ((F_a2.mv h1.mv).any)).mono ?_
  rintro e v1 ⟨rfl, hb1⟩
  refine ⟨hb1, [.bool (mayT a)], _, rfl, by kernel_rfl, by kernel_rfl, fun g1 => ?_⟩
  replace F_a1 := F_a1.mv g1.mv; replace F_a2 := F_a2.mv g1.mv; replace F_b1 := F_b1.mv g1.mv; replace F_b2 := F_b2.mv g1.mv
  clear h1 hb1
  refine sat_prim (v := .bool (!(mayT a))) (by kernel_rfl) ?_
  cases hMa : (mayT a)
  · refine sat_true (by kernel_rfl) ?_
    exact sat_ret (.bool false) (by kernel_rfl) fun w9 h9 => congrArg Value.bool (by unfold besideT; rw [hMa]; rfl)
  · refine sat_false (by kernel_rfl) ?_
    refine sat_call #[.agg #[.slice A_b b.at_.length c_b, .slice B_b b.v.length d_b]] (by kernel_rfl) fun w3 h3 => ?_
    refine (rmayT_any _ _ _ _ b _ ((F_b1.mv h3.mv).any) ((F_b2.mv h3.mv).any)).mono ?_
    rintro e v3 ⟨rfl, hb3⟩
    refine ⟨hb3, [.bool (mayT b)], _, rfl, by kernel_rfl, by kernel_rfl, fun g3 => ?_⟩
    replace F_a1 := F_a1.mv g3.mv; replace F_a2 := F_a2.mv g3.mv; replace F_b1 := F_b1.mv g3.mv; replace F_b2 := F_b2.mv g3.mv
    clear h3 hb3
    refine sat_prim (v := .bool (!(mayT b))) (by kernel_rfl) ?_
    cases hMb : (mayT b)
    · refine sat_true (by kernel_rfl) ?_
      exact sat_ret (.bool false) (by kernel_rfl) fun w9 h9 => congrArg Value.bool (by unfold besideT; rw [hMa, hMb]; rfl)
    · refine sat_false (by kernel_rfl) ?_
      refine sat_idx (A := A_a) (c := c_a) (kk := .i64) 0 (by kernel_rfl) (by kernel_rfl) (by have := (MayT.of hMa).len; omega) F_a1.addr fun g5 o5 e5 => ?_
      obtain ⟨x1, h_x1⟩ : ∃ x_, a.at_[0]? = some x_ := ⟨_, List.getElem?_eq_getElem (by have := (MayT.of hMa).len; omega)⟩
      refine sat_el F_a1 e5 h_x1 rfl (by kernel_rfl) (by kernel_rfl) (by kernel_rfl) ?_
      rintro _ ⟨A_L2, n_L2, c_L2, rfl, r_L2⟩
      refine sat_idx (A := A_b) (c := c_b) (kk := .i64) 0 (by kernel_rfl) (by kernel_rfl) (by have := (MayT.of hMb).len; omega) F_b1.addr fun g6 o6 e6 => ?_
      obtain ⟨x3, h_x3⟩ : ∃ x_, b.at_[0]? = some x_ := ⟨_, List.getElem?_eq_getElem (by have := (MayT.of hMb).len; omega)⟩
      refine sat_el F_b1 e6 h_x3 rfl (by kernel_rfl) (by kernel_rfl) (by kernel_rfl) ?_
      rintro _ ⟨A_L4, n_L4, c_L4, rfl, r_L4⟩
      refine sat_call #[.agg #[.bool x1.neg, .slice A_L2 n_L2 c_L2, .int .i64 x1.e], .agg #[.bool x3.neg, .slice A_L4 n_L4 c_L4, .int .i64 x3.e]] (by kernel_rfl) fun w7 h7 => ?_
      refine (rcmpD_any _ _ (x1) (x3) _ (h7.rdD r_L2) (h7.rdD r_L4)).mono ?_
      rintro e v7 ⟨rfl, hb7⟩
      refine ⟨hb7, [.int .i64 (cmpD x1 x3)], _, rfl, by kernel_rfl, by kernel_rfl, fun g7 => ?_⟩
      replace F_a1 := F_a1.mv g7.mv; replace F_a2 := F_a2.mv g7.mv; replace F_b1 := F_b1.mv g7.mv; replace F_b2 := F_b2.mv g7.mv; replace r_L2 := g7.rdD r_L2; replace r_L4 := g7.rdD r_L4
      clear h7 hb7
      refine sat_prim (v := .bool (((cmpD x1 x3) : Int) != 0)) (by kernel_rfl) ?_
      cases hF : (((cmpD x1 x3) : Int) != 0)
      · refine sat_false (by kernel_rfl) ?_
        refine sat_prim (v := .int .i64 ((a.v.length : Nat) : Int)) (by kernel_rfl) ?_
        refine sat_idx (A := A_a) (c := c_a) (kk := .i64) (a.v.length) (by kernel_rfl) (by kernel_rfl) (by have := (MayT.of hMa).len; omega) F_a1.addr fun g9 o9 e9 => ?_
        obtain ⟨x5, h_x5⟩ : ∃ x_, a.at_[(a.v.length)]? = some x_ := ⟨_, List.getElem?_eq_getElem (by have := (MayT.of hMa).len; omega)⟩
        refine sat_el F_a1 e9 h_x5 rfl (by kernel_rfl) (by kernel_rfl) (by kernel_rfl) ?_
        rintro _ ⟨A_L6, n_L6, c_L6, rfl, r_L6⟩
        refine sat_prim (v := .int .i64 ((b.v.length : Nat) : Int)) (by kernel_rfl) ?_
        refine sat_idx (A := A_b) (c := c_b) (kk := .i64) (b.v.length) (by kernel_rfl) (by kernel_rfl) (by have := (MayT.of hMb).len; omega) F_b1.addr fun g10 o10 e10 => ?_
        obtain ⟨x7, h_x7⟩ : ∃ x_, b.at_[(b.v.length)]? = some x_ := ⟨_, List.getElem?_eq_getElem (by have := (MayT.of hMb).len; omega)⟩
        refine sat_el F_b1 e10 h_x7 rfl (by kernel_rfl) (by kernel_rfl) (by kernel_rfl) ?_
        rintro _ ⟨A_L8, n_L8, c_L8, rfl, r_L8⟩
        refine sat_call #[.agg #[.bool x5.neg, .slice A_L6 n_L6 c_L6, .int .i64 x5.e], .agg #[.bool x7.neg, .slice A_L8 n_L8 c_L8, .int .i64 x7.e]] (by kernel_rfl) fun w11 h11 => ?_
        refine (rcmpD_any _ _ (x5) (x7) _ (h11.rdD r_L6) (h11.rdD r_L8)).mono ?_
        rintro e v11 ⟨rfl, hb11⟩
        refine ⟨hb11, [.int .i64 (cmpD x5 x7)], _, rfl, by kernel_rfl, by kernel_rfl, fun g11 => ?_⟩
        replace F_a1 := F_a1.mv g11.mv; replace F_a2 := F_a2.mv g11.mv; replace F_b1 := F_b1.mv g11.mv; replace F_b2 := F_b2.mv g11.mv; replace r_L2 := g11.rdD r_L2; replace r_L4 := g11.rdD r_L4; replace r_L6 := g11.rdD r_L6; replace r_L8 := g11.rdD r_L8
        clear h11 hb11
        refine sat_prim (v := .bool (((cmpD x5 x7) : Int) != 0)) (by kernel_rfl) ?_
        cases hL : (((cmpD x5 x7) : Int) != 0)
        · refine sat_false (by kernel_rfl) ?_
          have TW := Two.mk' hMa hMb (limT F_a1 F_a2) (limT F_b1 F_b2) h_x1 h_x3 h_x5 h_x7 hF hL
          refine sat_loop (fun Kn vs W => ∃ (i : Nat), vs = [.int .i64 ((i : Nat) : Int), .bool false] ∧ Kn = a.v.length - i ∧ i ≤ a.v.length ∧ (Cel st a b i 0)) [.int .i64 0, .bool false] (by kernel_rfl) (fun w1 h1 => ⟨_, 0, rfl, rfl, Nat.zero_le _, Cel.start⟩) ?_
          rintro Kn vs w13 h13 ⟨i, rfl, rfl, h_i, hC⟩
          replace F_a1 := F_a1.mv h13.mv; replace F_a2 := F_a2.mv h13.mv; replace F_b1 := F_b1.mv h13.mv; replace F_b2 := F_b2.mv h13.mv; replace r_L2 := h13.rdD r_L2; replace r_L4 := h13.rdD r_L4; replace r_L6 := h13.rdD r_L6; replace r_L8 := h13.rdD r_L8
          clear h13
          refine sat_prim (v := .int .i64 ((a.v.length : Nat) : Int)) (by kernel_rfl) ?_
          refine sat_prim (v := .bool (decide ((((i : Nat) : Int) : Int) < ((a.v.length : Nat) : Int)))) (by kernel_rfl) ?_
          cases hi : (decide ((((i : Nat) : Int) : Int) < ((a.v.length : Nat) : Int)))
          · refine sat_false (by kernel_rfl) ?_
            exact sat_ret (.bool true) (by kernel_rfl) fun w9 h9 => congrArg Value.bool (TW.done hC hi)
          · refine sat_true (by kernel_rfl) ?_
            refine sat_loop (fun Kn vs W => ∃ (k : Nat), vs = [.int .i64 ((k : Nat) : Int), .bool false] ∧ Kn = b.v.length - k ∧ k ≤ b.v.length ∧ (Cel st a b i k)) [.int .i64 0, .bool false] (by kernel_rfl) (fun w1 h1 => ⟨_, 0, rfl, rfl, Nat.zero_le _, hC⟩) ?_
            rintro Kn vs w15 h15 ⟨k, rfl, rfl, h_k, hD⟩
            replace F_a1 := F_a1.mv h15.mv; replace F_a2 := F_a2.mv h15.mv; replace F_b1 := F_b1.mv h15.mv; replace F_b2 := F_b2.mv h15.mv; replace r_L2 := h15.rdD r_L2; replace r_L4 := h15.rdD r_L4; replace r_L6 := h15.rdD r_L6; replace r_L8 := h15.rdD r_L8
            clear h15
            refine sat_prim (v := .int .i64 ((b.v.length : Nat) : Int)) (by kernel_rfl) ?_
            refine sat_prim (v := .bool (decide ((((k : Nat) : Int) : Int) < ((b.v.length : Nat) : Int)))) (by kernel_rfl) ?_
            cases hk : (decide ((((k : Nat) : Int) : Int) < ((b.v.length : Nat) : Int)))
            · refine sat_false (by kernel_rfl) ?_
              refine sat_prim (v := .int .i64 ((i + 1 : Nat) : Int)) (Eq.trans (b := some (.int .i64 (IntKind.i64.wrap (((i : Nat) : Int) + 1)))) (by kernel_rfl) (sml (by have := lt_of hi; have := (MayT.of hMa).few; have := (MayT.of hMb).few; omega) (by have := lt_of hi; have := (MayT.of hMa).few; have := (MayT.of hMb).few; omega))) ?_
              exact Sx.sat_backO (d := 0) (d' := 1) rfl [.int .i64 ((i + 1 : Nat) : Int), .bool false] (by kernel_rfl) fun w9 h9 => ⟨_, by have := lt_of hi; omega, i + 1, rfl, rfl, by have := lt_of hi; omega, hD.next hk⟩
            · refine sat_true (by kernel_rfl) ?_
              refine sat_idx (A := A_a) (c := c_a) (kk := .i64) (i) (by kernel_rfl) (by kernel_rfl) (by have := lt_of hi; have := (MayT.of hMa).len; have := (MayT.of hMb).len; omega) F_a1.addr fun g17 o17 e17 => ?_
              obtain ⟨x9, h_x9⟩ : ∃ x_, a.at_[(i)]? = some x_ := ⟨_, List.getElem?_eq_getElem (by have := lt_of hi; have := (MayT.of hMa).len; have := (MayT.of hMb).len; omega)⟩
              refine sat_el F_a1 e17 h_x9 rfl (by kernel_rfl) (by kernel_rfl) (by kernel_rfl) ?_
              rintro _ ⟨A_L10, n_L10, c_L10, rfl, r_L10⟩
              refine sat_prim (v := .int .i64 ((k + 1 : Nat) : Int)) (Eq.trans (b := some (.int .i64 (IntKind.i64.wrap (((k : Nat) : Int) + 1)))) (by kernel_rfl) (sml (by have := lt_of hi; have := lt_of hk; have := (MayT.of hMa).few; have := (MayT.of hMb).few; omega) (by have := lt_of hi; have := lt_of hk; have := (MayT.of hMa).few; have := (MayT.of hMb).few; omega))) ?_
              refine sat_idx (A := A_b) (c := c_b) (kk := .i64) (k + 1) (by kernel_rfl) (by kernel_rfl) (by have := lt_of hk; have := (MayT.of hMa).len; have := (MayT.of hMb).len; omega) F_b1.addr fun g18 o18 e18 => ?_
              obtain ⟨x11, h_x11⟩ : ∃ x_, b.at_[(k + 1)]? = some x_ := ⟨_, List.getElem?_eq_getElem (by have := lt_of hk; have := (MayT.of hMa).len; have := (MayT.of hMb).len; omega)⟩
              refine sat_el F_b1 e18 h_x11 rfl (by kernel_rfl) (by kernel_rfl) (by kernel_rfl) ?_
              rintro _ ⟨A_L12, n_L12, c_L12, rfl, r_L12⟩
              refine sat_call #[.agg #[.bool x9.neg, .slice A_L10 n_L10 c_L10, .int .i64 x9.e], .agg #[.bool x11.neg, .slice A_L12 n_L12 c_L12, .int .i64 x11.e]] (by kernel_rfl) fun w19 h19 => ?_
              refine (less_any _ _ (x9) (x11) _ (h19.rdD r_L10) (h19.rdD r_L12)).mono ?_
              rintro e v19 ⟨rfl, hb19⟩
              refine ⟨hb19, [.bool (decide (cmpD x9 x11 < 0))], _, rfl, by kernel_rfl, by kernel_rfl, fun g19 => ?_⟩
              replace F_a1 := F_a1.mv g19.mv; replace F_a2 := F_a2.mv g19.mv; replace F_b1 := F_b1.mv g19.mv; replace F_b2 := F_b2.mv g19.mv; replace r_L2 := g19.rdD r_L2; replace r_L4 := g19.rdD r_L4; replace r_L6 := g19.rdD r_L6; replace r_L8 := g19.rdD r_L8; replace r_L10 := g19.rdD r_L10; replace r_L12 := g19.rdD r_L12
              clear h19 hb19
              refine sat_prim (v := .bool (!(decide (cmpD x9 x11 < 0)))) (by kernel_rfl) ?_
              cases hc1 : (decide (cmpD x9 x11 < 0))
              · refine sat_true (by kernel_rfl) ?_
                refine sat_prim (v := .int .i64 ((k + 1 : Nat) : Int)) (Eq.trans (b := some (.int .i64 (IntKind.i64.wrap (((k : Nat) : Int) + 1)))) (by kernel_rfl) (sml (by have := lt_of hi; have := lt_of hk; have := (MayT.of hMa).few; have := (MayT.of hMb).few; omega) (by have := lt_of hi; have := lt_of hk; have := (MayT.of hMa).few; have := (MayT.of hMb).few; omega))) ?_
                exact sat_back [.int .i64 ((k + 1 : Nat) : Int), .bool false] (by kernel_rfl) fun w9 h9 => ⟨_, by have := lt_of hk; omega, k + 1, rfl, rfl, by have := lt_of hk; omega, hD.skip1 TW.A TW.B (lt_of hi) (lt_of hk) h_x9 h_x11 hc1⟩
              · refine sat_false (by kernel_rfl) ?_
                refine sat_idx (A := A_b) (c := c_b) (kk := .i64) (k) (by kernel_rfl) (by kernel_rfl) (by have := lt_of hk; have := (MayT.of hMa).len; have := (MayT.of hMb).len; omega) F_b1.addr fun g21 o21 e21 => ?_
                obtain ⟨x13, h_x13⟩ : ∃ x_, b.at_[(k)]? = some x_ := ⟨_, List.getElem?_eq_getElem (by have := lt_of hk; have := (MayT.of hMa).len; have := (MayT.of hMb).len; omega)⟩
                refine sat_el F_b1 e21 h_x13 rfl (by kernel_rfl) (by kernel_rfl) (by kernel_rfl) ?_
                rintro _ ⟨A_L14, n_L14, c_L14, rfl, r_L14⟩
                refine sat_prim (v := .int .i64 ((i + 1 : Nat) : Int)) (Eq.trans (b := some (.int .i64 (IntKind.i64.wrap (((i : Nat) : Int) + 1)))) (by kernel_rfl) (sml (by have := lt_of hi; have := lt_of hk; have := (MayT.of hMa).few; have := (MayT.of hMb).few; omega) (by have := lt_of hi; have := lt_of hk; have := (MayT.of hMa).few; have := (MayT.of hMb).few; omega))) ?_
                refine sat_idx (A := A_a) (c := c_a) (kk := .i64) (i + 1) (by kernel_rfl) (by kernel_rfl) (by have := lt_of hi; have := (MayT.of hMa).len; have := (MayT.of hMb).len; omega) F_a1.addr fun g22 o22 e22 => ?_
                obtain ⟨x15, h_x15⟩ : ∃ x_, a.at_[(i + 1)]? = some x_ := ⟨_, List.getElem?_eq_getElem (by have := lt_of hi; have := (MayT.of hMa).len; have := (MayT.of hMb).len; omega)⟩
                refine sat_el F_a1 e22 h_x15 rfl (by kernel_rfl) (by kernel_rfl) (by kernel_rfl) ?_
                rintro _ ⟨A_L16, n_L16, c_L16, rfl, r_L16⟩
                refine sat_call #[.agg #[.bool x13.neg, .slice A_L14 n_L14 c_L14, .int .i64 x13.e], .agg #[.bool x15.neg, .slice A_L16 n_L16 c_L16, .int .i64 x15.e]] (by kernel_rfl) fun w23 h23 => ?_
                refine (less_any _ _ (x13) (x15) _ (h23.rdD r_L14) (h23.rdD r_L16)).mono ?_
                rintro e v23 ⟨rfl, hb23⟩
                refine ⟨hb23, [.bool (decide (cmpD x13 x15 < 0))], _, rfl, by kernel_rfl, by kernel_rfl, fun g23 => ?_⟩
                replace F_a1 := F_a1.mv g23.mv; replace F_a2 := F_a2.mv g23.mv; replace F_b1 := F_b1.mv g23.mv; replace F_b2 := F_b2.mv g23.mv; replace r_L2 := g23.rdD r_L2; replace r_L4 := g23.rdD r_L4; replace r_L6 := g23.rdD r_L6; replace r_L8 := g23.rdD r_L8; replace r_L10 := g23.rdD r_L10; replace r_L12 := g23.rdD r_L12; replace r_L14 := g23.rdD r_L14; replace r_L16 := g23.rdD r_L16
                clear h23 hb23
                refine sat_prim (v := .bool (!(decide (cmpD x13 x15 < 0)))) (by kernel_rfl) ?_
                cases hc2 : (decide (cmpD x13 x15 < 0))
                · refine sat_true (by kernel_rfl) ?_
                  refine sat_prim (v := .int .i64 ((k + 1 : Nat) : Int)) (Eq.trans (b := some (.int .i64 (IntKind.i64.wrap (((k : Nat) : Int) + 1)))) (by kernel_rfl) (sml (by have := lt_of hi; have := lt_of hk; have := (MayT.of hMa).few; have := (MayT.of hMb).few; omega) (by have := lt_of hi; have := lt_of hk; have := (MayT.of hMa).few; have := (MayT.of hMb).few; omega))) ?_
                  exact sat_back [.int .i64 ((k + 1 : Nat) : Int), .bool false] (by kernel_rfl) fun w9 h9 => ⟨_, by have := lt_of hk; omega, k + 1, rfl, rfl, by have := lt_of hk; omega, hD.skip2 TW.A TW.B (lt_of hi) (lt_of hk) h_x13 h_x15 hc2⟩
                · refine sat_false (by kernel_rfl) ?_
                  cases hst : (st)
                  · refine sat_false (by kernel_rfl) ?_
                    refine sat_idx (A := B_a) (c := d_a) (kk := .i64) (i) (by kernel_rfl) (by kernel_rfl) (lt_of hi) F_a2.addr fun g26 o26 e26 => ?_
                    obtain ⟨x17, h_x17⟩ : ∃ x_, a.v[(i)]? = some x_ := ⟨_, List.getElem?_eq_getElem (lt_of hi)⟩
                    refine sat_el F_a2 e26 h_x17 rfl (by kernel_rfl) (by kernel_rfl) (by kernel_rfl) ?_
                    rintro _ ⟨A_L18, n_L18, c_L18, B_L18, m_L18, k_L18, rfl, r_L18l, r_L18h⟩
                    refine sat_idx (A := B_b) (c := d_b) (kk := .i64) (k) (by kernel_rfl) (by kernel_rfl) (lt_of hk) F_b2.addr fun g27 o27 e27 => ?_
                    obtain ⟨x19, h_x19⟩ : ∃ x_, b.v[(k)]? = some x_ := ⟨_, List.getElem?_eq_getElem (lt_of hk)⟩
                    refine sat_el F_b2 e27 h_x19 rfl (by kernel_rfl) (by kernel_rfl) (by kernel_rfl) ?_
                    rintro _ ⟨A_L20, n_L20, c_L20, B_L20, m_L20, k_L20, rfl, r_L20l, r_L20h⟩
                    refine sat_call #[.agg #[.bool x17.lo.neg, .slice A_L18 n_L18 c_L18, .int .i64 x17.lo.e, .bool x17.hi.neg, .slice B_L18 m_L18 k_L18, .int .i64 x17.hi.e], .agg #[.bool x19.lo.neg, .slice A_L20 n_L20 c_L20, .int .i64 x19.lo.e, .bool x19.hi.neg, .slice B_L20 m_L20 k_L20, .int .i64 x19.hi.e]] (by kernel_rfl) fun w28 h28 => ?_
                    refine (rwithinI_any _ _ x17 x19 _ (mkI (h28.rdD r_L18l) (h28.rdD r_L18h)) (mkI (h28.rdD r_L20l) (h28.rdD r_L20h))).mono ?_
                    rintro e v28 ⟨rfl, hb28⟩
                    refine ⟨hb28, [.bool (withinI x17 x19)], _, rfl, by kernel_rfl, by kernel_rfl, fun g28 => ?_⟩
                    replace F_a1 := F_a1.mv g28.mv; replace F_a2 := F_a2.mv g28.mv; replace F_b1 := F_b1.mv g28.mv; replace F_b2 := F_b2.mv g28.mv; replace r_L2 := g28.rdD r_L2; replace r_L4 := g28.rdD r_L4; replace r_L6 := g28.rdD r_L6; replace r_L8 := g28.rdD r_L8; replace r_L10 := g28.rdD r_L10; replace r_L12 := g28.rdD r_L12; replace r_L14 := g28.rdD r_L14; replace r_L16 := g28.rdD r_L16; replace r_L18l := g28.rdD r_L18l; replace r_L18h := g28.rdD r_L18h; replace r_L20l := g28.rdD r_L20l; replace r_L20h := g28.rdD r_L20h
                    clear h28 hb28
                    refine sat_prim (v := .bool (!(withinI x17 x19))) (by kernel_rfl) ?_
                    cases hwi : (withinI x17 x19)
                    · refine sat_true (by kernel_rfl) ?_
                      exact sat_ret (.bool false) (by kernel_rfl) fun w9 h9 => congrArg Value.bool (TW.bad h_x17 h_x19 h_x9 h_x11 h_x13 h_x15 hc1 hc2 (by unfold fS; first | exact hwi | (rw [hst]; exact hwi)))
                    · refine sat_false (by kernel_rfl) ?_
                      refine sat_prim (v := .int .i64 ((k + 1 : Nat) : Int)) (Eq.trans (b := some (.int .i64 (IntKind.i64.wrap (((k : Nat) : Int) + 1)))) (by kernel_rfl) (sml (by have := lt_of hi; have := lt_of hk; have := (MayT.of hMa).few; have := (MayT.of hMb).few; omega) (by have := lt_of hi; have := lt_of hk; have := (MayT.of hMa).few; have := (MayT.of hMb).few; omega))) ?_
                      exact sat_back [.int .i64 ((k + 1 : Nat) : Int), .bool false] (by kernel_rfl) fun w9 h9 => ⟨_, by have := lt_of hk; omega, k + 1, rfl, rfl, by have := lt_of hk; omega, (by have hq := hD.step h_x17 h_x19 (by unfold fS; first | exact hwi | (rw [hst]; exact hwi)); rw [hst] at hq; exact hq)⟩
                  · refine sat_true (by kernel_rfl) ?_
                    refine sat_idx (A := B_a) (c := d_a) (kk := .i64) (i) (by kernel_rfl) (by kernel_rfl) (lt_of hi) F_a2.addr fun g26 o26 e26 => ?_
                    obtain ⟨x17, h_x17⟩ : ∃ x_, a.v[(i)]? = some x_ := ⟨_, List.getElem?_eq_getElem (lt_of hi)⟩
                    refine sat_el F_a2 e26 h_x17 rfl (by kernel_rfl) (by kernel_rfl) (by kernel_rfl) ?_
                    rintro _ ⟨A_L18, n_L18, c_L18, B_L18, m_L18, k_L18, rfl, r_L18l, r_L18h⟩
                    refine sat_idx (A := B_b) (c := d_b) (kk := .i64) (k) (by kernel_rfl) (by kernel_rfl) (lt_of hk) F_b2.addr fun g27 o27 e27 => ?_
                    obtain ⟨x19, h_x19⟩ : ∃ x_, b.v[(k)]? = some x_ := ⟨_, List.getElem?_eq_getElem (lt_of hk)⟩
                    refine sat_el F_b2 e27 h_x19 rfl (by kernel_rfl) (by kernel_rfl) (by kernel_rfl) ?_
                    rintro _ ⟨A_L20, n_L20, c_L20, B_L20, m_L20, k_L20, rfl, r_L20l, r_L20h⟩
                    refine sat_call #[.agg #[.bool x17.lo.neg, .slice A_L18 n_L18 c_L18, .int .i64 x17.lo.e, .bool x17.hi.neg, .slice B_L18 m_L18 k_L18, .int .i64 x17.hi.e], .agg #[.bool x19.lo.neg, .slice A_L20 n_L20 c_L20, .int .i64 x19.lo.e, .bool x19.hi.neg, .slice B_L20 m_L20 k_L20, .int .i64 x19.hi.e]] (by kernel_rfl) fun w28 h28 => ?_
                    refine (rinsideI_any _ _ x17 x19 _ (mkI (h28.rdD r_L18l) (h28.rdD r_L18h)) (mkI (h28.rdD r_L20l) (h28.rdD r_L20h))).mono ?_
                    rintro e v28 ⟨rfl, hb28⟩
                    refine ⟨hb28, [.bool (insideI x17 x19)], _, rfl, by kernel_rfl, by kernel_rfl, fun g28 => ?_⟩
                    replace F_a1 := F_a1.mv g28.mv; replace F_a2 := F_a2.mv g28.mv; replace F_b1 := F_b1.mv g28.mv; replace F_b2 := F_b2.mv g28.mv; replace r_L2 := g28.rdD r_L2; replace r_L4 := g28.rdD r_L4; replace r_L6 := g28.rdD r_L6; replace r_L8 := g28.rdD r_L8; replace r_L10 := g28.rdD r_L10; replace r_L12 := g28.rdD r_L12; replace r_L14 := g28.rdD r_L14; replace r_L16 := g28.rdD r_L16; replace r_L18l := g28.rdD r_L18l; replace r_L18h := g28.rdD r_L18h; replace r_L20l := g28.rdD r_L20l; replace r_L20h := g28.rdD r_L20h
                    clear h28 hb28
                    refine sat_prim (v := .bool (!(insideI x17 x19))) (by kernel_rfl) ?_
                    cases hin : (insideI x17 x19)
                    · refine sat_true (by kernel_rfl) ?_
                      exact sat_ret (.bool false) (by kernel_rfl) fun w9 h9 => congrArg Value.bool (TW.bad h_x17 h_x19 h_x9 h_x11 h_x13 h_x15 hc1 hc2 (by unfold fS; first | exact hin | (rw [hst]; exact hin)))
                    · refine sat_false (by kernel_rfl) ?_
                      refine sat_idx (A := B_a) (c := d_a) (kk := .i64) (i) (by kernel_rfl) (by kernel_rfl) (lt_of hi) F_a2.addr fun g30 o30 e30 => ?_
                      refine sat_el F_a2 e30 h_x17 rfl (by kernel_rfl) (by kernel_rfl) (by kernel_rfl) ?_
                      rintro _ ⟨A_L21, n_L21, c_L21, B_L21, m_L21, k_L21, rfl, r_L21l, r_L21h⟩
                      refine sat_idx (A := B_b) (c := d_b) (kk := .i64) (k) (by kernel_rfl) (by kernel_rfl) (lt_of hk) F_b2.addr fun g31 o31 e31 => ?_
                      refine sat_el F_b2 e31 h_x19 rfl (by kernel_rfl) (by kernel_rfl) (by kernel_rfl) ?_
                      rintro _ ⟨A_L22, n_L22, c_L22, B_L22, m_L22, k_L22, rfl, r_L22l, r_L22h⟩
                      refine sat_call #[.agg #[.bool x17.lo.neg, .slice A_L21 n_L21 c_L21, .int .i64 x17.lo.e, .bool x17.hi.neg, .slice B_L21 m_L21 k_L21, .int .i64 x17.hi.e], .agg #[.bool x19.lo.neg, .slice A_L22 n_L22 c_L22, .int .i64 x19.lo.e, .bool x19.hi.neg, .slice B_L22 m_L22 k_L22, .int .i64 x19.hi.e]] (by kernel_rfl) fun w32 h32 => ?_
                      refine (rwithinI_any _ _ x17 x19 _ (mkI (h32.rdD r_L21l) (h32.rdD r_L21h)) (mkI (h32.rdD r_L22l) (h32.rdD r_L22h))).mono ?_
                      rintro e v32 ⟨rfl, hb32⟩
                      refine ⟨hb32, [.bool (withinI x17 x19)], _, rfl, by kernel_rfl, by kernel_rfl, fun g32 => ?_⟩
                      replace F_a1 := F_a1.mv g32.mv; replace F_a2 := F_a2.mv g32.mv; replace F_b1 := F_b1.mv g32.mv; replace F_b2 := F_b2.mv g32.mv; replace r_L2 := g32.rdD r_L2; replace r_L4 := g32.rdD r_L4; replace r_L6 := g32.rdD r_L6; replace r_L8 := g32.rdD r_L8; replace r_L10 := g32.rdD r_L10; replace r_L12 := g32.rdD r_L12; replace r_L14 := g32.rdD r_L14; replace r_L16 := g32.rdD r_L16; replace r_L18l := g32.rdD r_L18l; replace r_L18h := g32.rdD r_L18h; replace r_L20l := g32.rdD r_L20l; replace r_L20h := g32.rdD r_L20h; replace r_L21l := g32.rdD r_L21l; replace r_L21h := g32.rdD r_L21h; replace r_L22l := g32.rdD r_L22l; replace r_L22h := g32.rdD r_L22h
                      clear h32 hb32
                      refine sat_prim (v := .bool (!(withinI x17 x19))) (by kernel_rfl) ?_
                      cases hwi : (withinI x17 x19)
                      · refine sat_true (by kernel_rfl) ?_
                        exact absurd (TW.inw h_x17 h_x19 hin) (by rw [hwi]; exact Bool.false_ne_true)
                      · refine sat_false (by kernel_rfl) ?_
                        refine sat_prim (v := .int .i64 ((k + 1 : Nat) : Int)) (Eq.trans (b := some (.int .i64 (IntKind.i64.wrap (((k : Nat) : Int) + 1)))) (by kernel_rfl) (sml (by have := lt_of hi; have := lt_of hk; have := (MayT.of hMa).few; have := (MayT.of hMb).few; omega) (by have := lt_of hi; have := lt_of hk; have := (MayT.of hMa).few; have := (MayT.of hMb).few; omega))) ?_
                        exact sat_back [.int .i64 ((k + 1 : Nat) : Int), .bool false] (by kernel_rfl) fun w9 h9 => ⟨_, by have := lt_of hk; omega, k + 1, rfl, rfl, by have := lt_of hk; omega, (by have hq := hD.step h_x17 h_x19 (by unfold fS; first | exact hin | (rw [hst]; exact hin)); rw [hst] at hq; exact hq)⟩
        · refine sat_true (by kernel_rfl) ?_
          exact sat_ret (.bool false) (by kernel_rfl) fun w9 h9 => congrArg Value.bool (by unfold besideT; rw [hMa, hMb, show firstT a = x1 from atT_is h_x1, show firstT b = x3 from atT_is h_x3, hF, last_is hMa h_x5, last_is hMb h_x7, hL]; rfl)
      · refine sat_true (by kernel_rfl) ?_
        exact sat_ret (.bool false) (by kernel_rfl) fun w9 h9 => congrArg Value.bool (by unfold besideT; rw [hMa, hMb, show firstT a = x1 from atT_is h_x1, show firstT b = x3 from atT_is h_x3, hF]; rfl)

def tr_r11insideT : Sx.Tree := .chk [.lf 0, .lf 1] (.chk [.lf 2, .lf 3] (.call 76 [.ag [.lf 0, .lf 1], .ag [.lf 2, .lf 3], .one (.bit true)] .one (.ret (.one (.lf 4)))))
theorem tr_r11insideT_eq : Sx.treeAt Tryz.prog 34 [] [] [(true, 2), (true, 2)] = some tr_r11insideT := by kernel_rfl

theorem rinsideT_any (A_a : Option Addr) (c_a : Nat) (B_a : Option Addr) (d_a : Nat) (A_b : Option Addr) (c_b : Nat) (B_b : Option Addr) (d_b : Nat) (a : Tb) (b : Tb) (w : World) (h_a1 : Sx.Rows Sx.kD (fun _ => True) w A_a a.at_.length c_a a.at_) (h_a2 : Sx.Rows Sx.kI (fun _ => True) w B_a a.v.length d_a a.v) (h_b1 : Sx.Rows Sx.kD (fun _ => True) w A_b b.at_.length c_b b.at_) (h_b2 : Sx.Rows Sx.kI (fun _ => True) w B_b b.v.length d_b b.v) :
    Calls Tryz.prog 34 #[.agg #[.slice A_a a.at_.length c_a, .slice B_a a.v.length d_a], .agg #[.slice A_b b.at_.length c_b, .slice B_b b.v.length d_b]] w fun e w' => e = .returned (.bool (besideT insideI a b)) ∧ Below w.heap.size w w' := by
  have F_a1 := h_a1.start
  have M_a1 := h_a1.le
  clear h_a1
  have F_a2 := h_a2.start
  have M_a2 := h_a2.le
  clear h_a2
  have F_b1 := h_b1.start
  have M_b1 := h_b1.le
  clear h_b1
  have F_b2 := h_b2.start
  have M_b2 := h_b2.le
  clear h_b2
  refine (Sx.runA [] [] (ls := [.slice A_a a.at_.length c_a, .slice B_a a.v.length d_a, .slice A_b b.at_.length c_b, .slice B_b b.v.length d_b]) (shs := [(true, 2), (true, 2)]) (R := fun v _ => v = .bool (besideT insideI a b)) tr_r11insideT_eq rfl (by decide) (fun q h => by cases h) ?_).mono (fun e w' ⟨v, he, hv, hb⟩ => ⟨by rw [he, hv], hb⟩)
  unfold tr_r11insideT
  refine sat_chkB (by kernel_rfl) ?_
  refine sat_chkB (by kernel_rfl) ?_
  refine sat_call #[.agg #[.slice A_a a.at_.length c_a, .slice B_a a.v.length d_a], .agg #[.slice A_b b.at_.length c_b, .slice B_b b.v.length d_b], .bool true] (by kernel_rfl) fun w1 h1 => ?_
  refine (rcells_any _ _ _ _ _ _ _ _ a b true _ ((F_a1.mv h1.mv).any) ((F_a2.mv h1.mv).any) ((F_b1.mv h1.mv).any) ((F_b2.mv h1.mv).any)).mono ?_
  rintro e v1 ⟨rfl, hb1⟩
  refine ⟨hb1, [.bool (besideT (fS true) a b)], _, rfl, by kernel_rfl, by kernel_rfl, fun g1 => ?_⟩
  replace F_a1 := F_a1.mv g1.mv; replace F_a2 := F_a2.mv g1.mv; replace F_b1 := F_b1.mv g1.mv; replace F_b2 := F_b2.mv g1.mv
  clear h1 hb1
  exact sat_ret (.bool (besideT (fS true) a b)) (by kernel_rfl) fun w9 h9 => rfl

def tr_r11withinT : Sx.Tree := .chk [.lf 0, .lf 1] (.chk [.lf 2, .lf 3] (.call 76 [.ag [.lf 0, .lf 1], .ag [.lf 2, .lf 3], .one (.bit false)] .one (.ret (.one (.lf 4)))))
theorem tr_r11withinT_eq : Sx.treeAt Tryz.prog 36 [] [] [(true, 2), (true, 2)] = some tr_r11withinT := by kernel_rfl

theorem rwithinT_any (A_a : Option Addr) (c_a : Nat) (B_a : Option Addr) (d_a : Nat) (A_b : Option Addr) (c_b : Nat) (B_b : Option Addr) (d_b : Nat) (a : Tb) (b : Tb) (w : World) (h_a1 : Sx.Rows Sx.kD (fun _ => True) w A_a a.at_.length c_a a.at_) (h_a2 : Sx.Rows Sx.kI (fun _ => True) w B_a a.v.length d_a a.v) (h_b1 : Sx.Rows Sx.kD (fun _ => True) w A_b b.at_.length c_b b.at_) (h_b2 : Sx.Rows Sx.kI (fun _ => True) w B_b b.v.length d_b b.v) :
    Calls Tryz.prog 36 #[.agg #[.slice A_a a.at_.length c_a, .slice B_a a.v.length d_a], .agg #[.slice A_b b.at_.length c_b, .slice B_b b.v.length d_b]] w fun e w' => e = .returned (.bool (besideT withinI a b)) ∧ Below w.heap.size w w' := by
  have F_a1 := h_a1.start
  have M_a1 := h_a1.le
  clear h_a1
  have F_a2 := h_a2.start
  have M_a2 := h_a2.le
  clear h_a2
  have F_b1 := h_b1.start
  have M_b1 := h_b1.le
  clear h_b1
  have F_b2 := h_b2.start
  have M_b2 := h_b2.le
  clear h_b2
  refine (Sx.runA [] [] (ls := [.slice A_a a.at_.length c_a, .slice B_a a.v.length d_a, .slice A_b b.at_.length c_b, .slice B_b b.v.length d_b]) (shs := [(true, 2), (true, 2)]) (R := fun v _ => v = .bool (besideT withinI a b)) tr_r11withinT_eq rfl (by decide) (fun q h => by cases h) ?_).mono (fun e w' ⟨v, he, hv, hb⟩ => ⟨by rw [he, hv], hb⟩)
  unfold tr_r11withinT
  refine sat_chkB (by kernel_rfl) ?_
  refine sat_chkB (by kernel_rfl) ?_
  refine sat_call #[.agg #[.slice A_a a.at_.length c_a, .slice B_a a.v.length d_a], .agg #[.slice A_b b.at_.length c_b, .slice B_b b.v.length d_b], .bool false] (by kernel_rfl) fun w1 h1 => ?_
  refine (rcells_any _ _ _ _ _ _ _ _ a b false _ ((F_a1.mv h1.mv).any) ((F_a2.mv h1.mv).any) ((F_b1.mv h1.mv).any) ((F_b2.mv h1.mv).any)).mono ?_
  rintro e v1 ⟨rfl, hb1⟩
  refine ⟨hb1, [.bool (besideT (fS false) a b)], _, rfl, by kernel_rfl, by kernel_rfl, fun g1 => ?_⟩
  replace F_a1 := F_a1.mv g1.mv; replace F_a2 := F_a2.mv g1.mv; replace F_b1 := F_b1.mv g1.mv; replace F_b2 := F_b2.mv g1.mv
  clear h1 hb1
  exact sat_ret (.bool (besideT (fS false) a b)) (by kernel_rfl) fun w9 h9 => rfl

def tr_tubeParts : Sx.Tree := .chk [.lf 0, .lf 1] (.chk [.lf 2, .lf 3] (.chk [.lf 4, .lf 5, .lf 6] (.chk [.lf 7, .lf 8, .lf 9] (.call 25 [.ag [.lf 0, .lf 1]] .one (.prim .not [.lf 10] (.ite (.lf 11) (.call 26 [] .one (.ret (.one (.lf 12)))) (.call 25 [.ag [.lf 2, .lf 3]] .one (.prim .not [.lf 12] (.ite (.lf 13) (.call 26 [] .one (.ret (.one (.lf 14)))) (.prim .len [.lf 5] (.prim (.bin .gtr) [.lf 14, .num .i64 6] (.ite (.lf 15) (.call 26 [] .one (.ret (.one (.lf 16)))) (.prim .len [.lf 8] (.prim (.bin .gtr) [.lf 16, .num .i64 6] (.ite (.lf 17) (.call 26 [] .one (.ret (.one (.lf 18)))) (.call 27 [.ag [.lf 0, .lf 1]] (.tup [(true, 2), (false, 1)]) (.chk [.lf 18, .lf 19] (.call 28 [.ag [.lf 0, .lf 1]] (.tup [(true, 2), (false, 1)]) (.chk [.lf 21, .lf 22] (.call 29 [.ag [.lf 0, .lf 1], .ag [.lf 4, .lf 5, .lf 6], .ag [.lf 7, .lf 8, .lf 9]] (.tup [(true, 2), (false, 1)]) (.chk [.lf 24, .lf 25] (.call 30 [.ag [.lf 0, .lf 1], .ag [.lf 4, .lf 5, .lf 6], .ag [.lf 7, .lf 8, .lf 9]] (.tup [(true, 2), (false, 1)]) (.chk [.lf 27, .lf 28] (.call 31 [.ag [.lf 0, .lf 1]] (.tup [(true, 3), (false, 1)]) (.chk [.lf 30, .lf 31, .lf 32] (.call 32 [.ag [.lf 0, .lf 1]] (.tup [(true, 3), (false, 1)]) (.chk [.lf 34, .lf 35, .lf 36] (.call 26 [] .one (.ite (.lf 38) (.call 33 [.ag [.lf 0, .lf 1], .ag [.lf 2, .lf 3]] .one (.call 34 [.ag [.lf 0, .lf 1], .ag [.lf 2, .lf 3]] .one (.prim (.bbin .eql) [.lf 39, .lf 40] (.ite (.lf 41) (.call 35 [.ag [.lf 0, .lf 1], .ag [.lf 2, .lf 3]] .one (.call 36 [.ag [.lf 0, .lf 1], .ag [.lf 2, .lf 3]] .one (.prim (.bbin .eql) [.lf 42, .lf 43] (.ite (.lf 44) (.call 37 [.ag [.lf 18, .lf 19], .one (.lf 20), .ag [.lf 21, .lf 22], .one (.lf 23)] .one (.ite (.lf 45) (.call 37 [.ag [.lf 24, .lf 25], .one (.lf 26), .ag [.lf 27, .lf 28], .one (.lf 29)] .one (.ite (.lf 46) (.prim (.bin .eql) [.lf 33, .lf 37] (.ite (.lf 47) (.call 15 [.ag [.lf 30, .lf 31, .lf 32], .ag [.lf 34, .lf 35, .lf 36]] .one (.ret (.one (.lf 48)))) (.ret (.one (.bit false))))) (.ret (.one (.bit false))))) (.ret (.one (.bit false))))) (.ret (.one (.bit false))))))) (.ret (.one (.bit false))))))) (.ret (.one (.bit false))))))))))))))))))))))))))))))))
theorem tr_tubeParts_eq : Sx.treeAt Tryz.prog 4 [] [] [(true, 2), (true, 2), (true, 3), (true, 3)] = some tr_tubeParts := by kernel_rfl

set_option maxRecDepth 100000 in
set_option maxHeartbeats 4000000 in
theorem tubeParts_any (A_a : Option Addr) (c_a : Nat) (B_a : Option Addr) (d_a : Nat) (A_b : Option Addr) (c_b : Nat) (B_b : Option Addr) (d_b : Nat) (v_x : Value) (v_y : Value) (a : Tb) (b : Tb) (x : Dy) (y : Dy) (w : World) (h_a1 : Sx.Rows Sx.kD (fun _ => True) w A_a a.at_.length c_a a.at_) (h_a2 : Sx.Rows Sx.kI (fun _ => True) w B_a a.v.length d_a a.v) (h_b1 : Sx.Rows Sx.kD (fun _ => True) w A_b b.at_.length c_b b.at_) (h_b2 : Sx.Rows Sx.kI (fun _ => True) w B_b b.v.length d_b b.v) (h_x : RdD w v_x x) (h_y : RdD w v_y y) (hT : TabAt w) :
    Calls Tryz.prog 4 #[.agg #[.slice A_a a.at_.length c_a, .slice B_a a.v.length d_a], .agg #[.slice A_b b.at_.length c_b, .slice B_b b.v.length d_b], v_x, v_y] w fun e w' => e = .returned (.bool true) ∧ Below w.heap.size w w' := by
  have r_x := h_x
  obtain ⟨A_x, n_x, c_x, rfl, _⟩ := h_x
  have r_y := h_y
  obtain ⟨A_y, n_y, c_y, rfl, _⟩ := h_y
  have F_a1 := h_a1.start
  have M_a1 := h_a1.le
  clear h_a1
  have F_a2 := h_a2.start
  have M_a2 := h_a2.le
  clear h_a2
  have F_b1 := h_b1.start
  have M_b1 := h_b1.le
  clear h_b1
  have F_b2 := h_b2.start
  have M_b2 := h_b2.le
  clear h_b2
  refine (Sx.runA [] [] (ls := [.slice A_a a.at_.length c_a, .slice B_a a.v.length d_a, .slice A_b b.at_.length c_b, .slice B_b b.v.length d_b, .bool x.neg, .slice A_x n_x c_x, .int .i64 x.e, .bool y.neg, .slice A_y n_y c_y, .int .i64 y.e]) (shs := [(true, 2), (true, 2), (true, 3), (true, 3)]) (R := fun v w' => v = .bool true) tr_tubeParts_eq rfl (by decide) (fun q h => by cases h) ?_).mono (fun e w' ⟨v, he, hv, hb⟩ => ⟨by rw [he, hv], hb⟩)
  unfold tr_tubeParts
  refine sat_chkB (by kernel_rfl) ?_
  refine sat_chkB (by kernel_rfl) ?_
  refine sat_chkB (by kernel_rfl) ?_
  refine sat_chkB (by kernel_rfl) ?_
  refine sat_call #[.agg #[.slice A_a a.at_.length c_a, .slice B_a a.v.length d_a]] (by kernel_rfl) fun w1 h1 => ?_
  refine (fewT_any _ _ _ _ a _ ((F_a1.mv h1.mv).any) ((F_a2.mv h1.mv).any)).mono ?_
  rintro e v1 ⟨rfl, hb1⟩
  refine ⟨hb1, [.bool (fewT a)], _, rfl, by kernel_rfl, by kernel_rfl, fun g1 => ?_⟩
  replace F_a1 := F_a1.mv g1.mv; replace F_a2 := F_a2.mv g1.mv; replace F_b1 := F_b1.mv g1.mv; replace F_b2 := F_b2.mv g1.mv; replace r_x := g1.rdD r_x; replace r_y := g1.rdD r_y
  clear h1 hb1
  refine sat_prim (v := .bool (!(fewT a))) (by kernel_rfl) ?_
  cases h_few_a : (fewT a)
  · refine sat_true (by kernel_rfl) ?_
    refine sat_call #[] (by kernel_rfl) fun w3 h3 => ?_
    refine (told13_any _ (h3.tab hT)).mono ?_
    rintro e v3 ⟨rfl, hb3⟩
    refine ⟨hb3, [.bool true], _, rfl, by kernel_rfl, by kernel_rfl, fun g3 => ?_⟩
    replace F_a1 := F_a1.mv g3.mv; replace F_a2 := F_a2.mv g3.mv; replace F_b1 := F_b1.mv g3.mv; replace F_b2 := F_b2.mv g3.mv; replace r_x := g3.rdD r_x; replace r_y := g3.rdD r_y
    clear h3 hb3
    exact sat_ret (.bool true) (by kernel_rfl) fun w9 h9 => rfl
  · refine sat_false (by kernel_rfl) ?_
    refine sat_call #[.agg #[.slice A_b b.at_.length c_b, .slice B_b b.v.length d_b]] (by kernel_rfl) fun w3 h3 => ?_
    refine (fewT_any _ _ _ _ b _ ((F_b1.mv h3.mv).any) ((F_b2.mv h3.mv).any)).mono ?_
    rintro e v3 ⟨rfl, hb3⟩
    refine ⟨hb3, [.bool (fewT b)], _, rfl, by kernel_rfl, by kernel_rfl, fun g3 => ?_⟩
    replace F_a1 := F_a1.mv g3.mv; replace F_a2 := F_a2.mv g3.mv; replace F_b1 := F_b1.mv g3.mv; replace F_b2 := F_b2.mv g3.mv; replace r_x := g3.rdD r_x; replace r_y := g3.rdD r_y
    clear h3 hb3
    refine sat_prim (v := .bool (!(fewT b))) (by kernel_rfl) ?_
    cases h_few_b : (fewT b)
    · refine sat_true (by kernel_rfl) ?_
      refine sat_call #[] (by kernel_rfl) fun w5 h5 => ?_
      refine (told13_any _ (h5.tab hT)).mono ?_
      rintro e v5 ⟨rfl, hb5⟩
      refine ⟨hb5, [.bool true], _, rfl, by kernel_rfl, by kernel_rfl, fun g5 => ?_⟩
      replace F_a1 := F_a1.mv g5.mv; replace F_a2 := F_a2.mv g5.mv; replace F_b1 := F_b1.mv g5.mv; replace F_b2 := F_b2.mv g5.mv; replace r_x := g5.rdD r_x; replace r_y := g5.rdD r_y
      clear h5 hb5
      exact sat_ret (.bool true) (by kernel_rfl) fun w9 h9 => rfl
    · refine sat_false (by kernel_rfl) ?_
      refine sat_prim (v := .int .i64 ((n_x : Nat) : Int)) (by kernel_rfl) ?_
      refine sat_prim (v := .bool (decide ((6 : Int) < ((n_x : Nat) : Int)))) (by kernel_rfl) ?_
      cases hE5 : (decide ((6 : Int) < ((n_x : Nat) : Int)))
      · refine sat_false (by kernel_rfl) ?_
        refine sat_prim (v := .int .i64 ((n_y : Nat) : Int)) (by kernel_rfl) ?_
        refine sat_prim (v := .bool (decide ((6 : Int) < ((n_y : Nat) : Int)))) (by kernel_rfl) ?_
        cases hE6 : (decide ((6 : Int) < ((n_y : Nat) : Int)))
        · refine sat_false (by kernel_rfl) ?_
          refine sat_call #[.agg #[.slice A_a a.at_.length c_a, .slice B_a a.v.length d_a]] (by kernel_rfl) fun w7 h7 => ?_
          refine (halveT_any _ _ _ _ a _ ((F_a1.mv h7.mv).any) ((F_a2.mv h7.mv).any) (h7.tab hT)).mono ?_
          rintro e v7 ⟨⟨p_t1, q_t1, x_t1, A_t1, c_t1, B_t1, d_t1, rfl, h_t1, F_t11, F_t12⟩, hb7⟩
          refine ⟨hb7, [.slice A_t1 p_t1.length c_t1, .slice B_t1 q_t1.length d_t1, .int .i64 x_t1], _, rfl, by kernel_rfl, by kernel_rfl, fun g7 => ?_⟩
          replace F_a1 := F_a1.mv g7.mv; replace F_a2 := F_a2.mv g7.mv; replace F_b1 := F_b1.mv g7.mv; replace F_b2 := F_b2.mv g7.mv; replace r_x := g7.rdD r_x; replace r_y := g7.rdD r_y
          replace F_t11 := F_t11.mv (Sx.Mv.fresh h7.wf)
          replace F_t12 := F_t12.mv (Sx.Mv.fresh h7.wf)
          clear h7 hb7
          refine sat_chkB (by kernel_rfl) ?_
          refine sat_call #[.agg #[.slice A_a a.at_.length c_a, .slice B_a a.v.length d_a]] (by kernel_rfl) fun w8 h8 => ?_
          refine (rhalveT_any _ _ _ _ a _ ((F_a1.mv h8.mv).any) ((F_a2.mv h8.mv).any)).mono ?_
          rintro e v8 ⟨⟨p_t2, q_t2, x_t2, A_t2, c_t2, B_t2, d_t2, rfl, h_t2, F_t21, F_t22⟩, hb8⟩
          obtain ⟨rfl, rfl, rfl⟩ := tb_eq h_t1 h_t2
          refine ⟨hb8, [.slice A_t2 p_t1.length c_t2, .slice B_t2 q_t1.length d_t2, .int .i64 x_t1], _, rfl, by kernel_rfl, by kernel_rfl, fun g8 => ?_⟩
          replace F_a1 := F_a1.mv g8.mv; replace F_a2 := F_a2.mv g8.mv; replace F_b1 := F_b1.mv g8.mv; replace F_b2 := F_b2.mv g8.mv; replace r_x := g8.rdD r_x; replace r_y := g8.rdD r_y; replace F_t11 := F_t11.mv g8.mv; replace F_t12 := F_t12.mv g8.mv
          replace F_t21 := F_t21.mv (Sx.Mv.fresh h8.wf)
          replace F_t22 := F_t22.mv (Sx.Mv.fresh h8.wf)
          clear h8 hb8
          refine sat_chkB (by kernel_rfl) ?_
          refine sat_call #[.agg #[.slice A_a a.at_.length c_a, .slice B_a a.v.length d_a], .agg #[.bool x.neg, .slice A_x n_x c_x, .int .i64 x.e], .agg #[.bool y.neg, .slice A_y n_y c_y, .int .i64 y.e]] (by kernel_rfl) fun w9 h9 => ?_
          refine (cutT_any _ _ _ _ _ _ a (x) (y) _ ((F_a1.mv h9.mv).any) ((F_a2.mv h9.mv).any) (h9.rdD r_x) (h9.rdD r_y)).mono ?_
          rintro e v9 ⟨⟨p_t3, q_t3, x_t3, A_t3, c_t3, B_t3, d_t3, rfl, h_t3, F_t31, F_t32⟩, hb9⟩
          refine ⟨hb9, [.slice A_t3 p_t3.length c_t3, .slice B_t3 q_t3.length d_t3, .int .i64 x_t3], _, rfl, by kernel_rfl, by kernel_rfl, fun g9 => ?_⟩
          replace F_a1 := F_a1.mv g9.mv; replace F_a2 := F_a2.mv g9.mv; replace F_b1 := F_b1.mv g9.mv; replace F_b2 := F_b2.mv g9.mv; replace r_x := g9.rdD r_x; replace r_y := g9.rdD r_y; replace F_t11 := F_t11.mv g9.mv; replace F_t12 := F_t12.mv g9.mv; replace F_t21 := F_t21.mv g9.mv; replace F_t22 := F_t22.mv g9.mv
          replace F_t31 := F_t31.mv (Sx.Mv.fresh h9.wf)
          replace F_t32 := F_t32.mv (Sx.Mv.fresh h9.wf)
          clear h9 hb9
          refine sat_chkB (by kernel_rfl) ?_
          refine sat_call #[.agg #[.slice A_a a.at_.length c_a, .slice B_a a.v.length d_a], .agg #[.bool x.neg, .slice A_x n_x c_x, .int .i64 x.e], .agg #[.bool y.neg, .slice A_y n_y c_y, .int .i64 y.e]] (by kernel_rfl) fun w10 h10 => ?_
          refine (rcutT_any _ _ _ _ _ _ a (x) (y) _ ((F_a1.mv h10.mv).any) ((F_a2.mv h10.mv).any) (h10.rdD r_x) (h10.rdD r_y)).mono ?_
          rintro e v10 ⟨⟨p_t4, q_t4, x_t4, A_t4, c_t4, B_t4, d_t4, rfl, h_t4, F_t41, F_t42⟩, hb10⟩
          obtain ⟨rfl, rfl, rfl⟩ := tb_eq h_t3 h_t4
          refine ⟨hb10, [.slice A_t4 p_t3.length c_t4, .slice B_t4 q_t3.length d_t4, .int .i64 x_t3], _, rfl, by kernel_rfl, by kernel_rfl, fun g10 => ?_⟩
          replace F_a1 := F_a1.mv g10.mv; replace F_a2 := F_a2.mv g10.mv; replace F_b1 := F_b1.mv g10.mv; replace F_b2 := F_b2.mv g10.mv; replace r_x := g10.rdD r_x; replace r_y := g10.rdD r_y; replace F_t11 := F_t11.mv g10.mv; replace F_t12 := F_t12.mv g10.mv; replace F_t21 := F_t21.mv g10.mv; replace F_t22 := F_t22.mv g10.mv; replace F_t31 := F_t31.mv g10.mv; replace F_t32 := F_t32.mv g10.mv
          replace F_t41 := F_t41.mv (Sx.Mv.fresh h10.wf)
          replace F_t42 := F_t42.mv (Sx.Mv.fresh h10.wf)
          clear h10 hb10
          refine sat_chkB (by kernel_rfl) ?_
          refine sat_call #[.agg #[.slice A_a a.at_.length c_a, .slice B_a a.v.length d_a]] (by kernel_rfl) fun w11 h11 => ?_
          refine (widthT_any _ _ _ _ a _ ((F_a1.mv h11.mv).any) ((F_a2.mv h11.mv).any) (h11.tab hT)).mono ?_
          rintro e v11 ⟨⟨d_w5, x_w5, A_w5, n_w5, c_w5, h_w5, rfl, r_w5⟩, hb11⟩
          refine ⟨hb11, [.bool d_w5.neg, .slice A_w5 n_w5 c_w5, .int .i64 d_w5.e, .int .i64 x_w5], _, rfl, by kernel_rfl, by kernel_rfl, fun g11 => ?_⟩
          replace F_a1 := F_a1.mv g11.mv; replace F_a2 := F_a2.mv g11.mv; replace F_b1 := F_b1.mv g11.mv; replace F_b2 := F_b2.mv g11.mv; replace r_x := g11.rdD r_x; replace r_y := g11.rdD r_y; replace F_t11 := F_t11.mv g11.mv; replace F_t12 := F_t12.mv g11.mv; replace F_t21 := F_t21.mv g11.mv; replace F_t22 := F_t22.mv g11.mv; replace F_t31 := F_t31.mv g11.mv; replace F_t32 := F_t32.mv g11.mv; replace F_t41 := F_t41.mv g11.mv; replace F_t42 := F_t42.mv g11.mv
          clear h11 hb11
          refine sat_chkB (by kernel_rfl) ?_
          refine sat_call #[.agg #[.slice A_a a.at_.length c_a, .slice B_a a.v.length d_a]] (by kernel_rfl) fun w12 h12 => ?_
          refine (rwidthT_any _ _ _ _ a _ ((F_a1.mv h12.mv).any) ((F_a2.mv h12.mv).any)).mono ?_
          rintro e v12 ⟨⟨d_w6, x_w6, A_w6, n_w6, c_w6, h_w6, rfl, r_w6⟩, hb12⟩
          obtain ⟨rfl, rfl⟩ := Prod.mk.inj (h_w5.out.trans h_w6.out.symm)
          refine ⟨hb12, [.bool d_w5.neg, .slice A_w6 n_w6 c_w6, .int .i64 d_w5.e, .int .i64 x_w5], _, rfl, by kernel_rfl, by kernel_rfl, fun g12 => ?_⟩
          replace F_a1 := F_a1.mv g12.mv; replace F_a2 := F_a2.mv g12.mv; replace F_b1 := F_b1.mv g12.mv; replace F_b2 := F_b2.mv g12.mv; replace r_x := g12.rdD r_x; replace r_y := g12.rdD r_y; replace F_t11 := F_t11.mv g12.mv; replace F_t12 := F_t12.mv g12.mv; replace F_t21 := F_t21.mv g12.mv; replace F_t22 := F_t22.mv g12.mv; replace F_t31 := F_t31.mv g12.mv; replace F_t32 := F_t32.mv g12.mv; replace F_t41 := F_t41.mv g12.mv; replace F_t42 := F_t42.mv g12.mv; replace r_w5 := g12.rdD r_w5
          clear h12 hb12
          refine sat_chkB (by kernel_rfl) ?_
          refine sat_call #[] (by kernel_rfl) fun w13 h13 => ?_
          refine (told13_any _ (h13.tab hT)).mono ?_
          rintro e v13 ⟨rfl, hb13⟩
          refine ⟨hb13, [.bool true], _, rfl, by kernel_rfl, by kernel_rfl, fun g13 => ?_⟩
          replace F_a1 := F_a1.mv g13.mv; replace F_a2 := F_a2.mv g13.mv; replace F_b1 := F_b1.mv g13.mv; replace F_b2 := F_b2.mv g13.mv; replace r_x := g13.rdD r_x; replace r_y := g13.rdD r_y; replace F_t11 := F_t11.mv g13.mv; replace F_t12 := F_t12.mv g13.mv; replace F_t21 := F_t21.mv g13.mv; replace F_t22 := F_t22.mv g13.mv; replace F_t31 := F_t31.mv g13.mv; replace F_t32 := F_t32.mv g13.mv; replace F_t41 := F_t41.mv g13.mv; replace F_t42 := F_t42.mv g13.mv; replace r_w5 := g13.rdD r_w5; replace r_w6 := g13.rdD r_w6
          clear h13 hb13
          refine sat_true (by kernel_rfl) ?_
          refine sat_call #[.agg #[.slice A_a a.at_.length c_a, .slice B_a a.v.length d_a], .agg #[.slice A_b b.at_.length c_b, .slice B_b b.v.length d_b]] (by kernel_rfl) fun w14 h14 => ?_
          refine (insideT_any _ _ _ _ _ _ _ _ a b _ ((F_a1.mv h14.mv).any) ((F_a2.mv h14.mv).any) ((F_b1.mv h14.mv).any) ((F_b2.mv h14.mv).any)).mono ?_
          rintro e v14 ⟨rfl, hb14⟩
          refine ⟨hb14, [.bool (besideT insideI a b)], _, rfl, by kernel_rfl, by kernel_rfl, fun g14 => ?_⟩
          replace F_a1 := F_a1.mv g14.mv; replace F_a2 := F_a2.mv g14.mv; replace F_b1 := F_b1.mv g14.mv; replace F_b2 := F_b2.mv g14.mv; replace r_x := g14.rdD r_x; replace r_y := g14.rdD r_y; replace F_t11 := F_t11.mv g14.mv; replace F_t12 := F_t12.mv g14.mv; replace F_t21 := F_t21.mv g14.mv; replace F_t22 := F_t22.mv g14.mv; replace F_t31 := F_t31.mv g14.mv; replace F_t32 := F_t32.mv g14.mv; replace F_t41 := F_t41.mv g14.mv; replace F_t42 := F_t42.mv g14.mv; replace r_w5 := g14.rdD r_w5; replace r_w6 := g14.rdD r_w6
          clear h14 hb14
          refine sat_call #[.agg #[.slice A_a a.at_.length c_a, .slice B_a a.v.length d_a], .agg #[.slice A_b b.at_.length c_b, .slice B_b b.v.length d_b]] (by kernel_rfl) fun w15 h15 => ?_
          refine (rinsideT_any _ _ _ _ _ _ _ _ a b _ ((F_a1.mv h15.mv).any) ((F_a2.mv h15.mv).any) ((F_b1.mv h15.mv).any) ((F_b2.mv h15.mv).any)).mono ?_
          rintro e v15 ⟨rfl, hb15⟩
          refine ⟨hb15, [.bool (besideT insideI a b)], _, rfl, by kernel_rfl, by kernel_rfl, fun g15 => ?_⟩
          replace F_a1 := F_a1.mv g15.mv; replace F_a2 := F_a2.mv g15.mv; replace F_b1 := F_b1.mv g15.mv; replace F_b2 := F_b2.mv g15.mv; replace r_x := g15.rdD r_x; replace r_y := g15.rdD r_y; replace F_t11 := F_t11.mv g15.mv; replace F_t12 := F_t12.mv g15.mv; replace F_t21 := F_t21.mv g15.mv; replace F_t22 := F_t22.mv g15.mv; replace F_t31 := F_t31.mv g15.mv; replace F_t32 := F_t32.mv g15.mv; replace F_t41 := F_t41.mv g15.mv; replace F_t42 := F_t42.mv g15.mv; replace r_w5 := g15.rdD r_w5; replace r_w6 := g15.rdD r_w6
          clear h15 hb15
          refine sat_prim (v := .bool ((besideT insideI a b) == (besideT insideI a b))) (by kernel_rfl) ?_
          refine sat_trueP (b := ((besideT insideI a b) == (besideT insideI a b))) (by kernel_rfl) (by simp) ?_
          refine sat_call #[.agg #[.slice A_a a.at_.length c_a, .slice B_a a.v.length d_a], .agg #[.slice A_b b.at_.length c_b, .slice B_b b.v.length d_b]] (by kernel_rfl) fun w16 h16 => ?_
          refine (withinT_any _ _ _ _ _ _ _ _ a b _ ((F_a1.mv h16.mv).any) ((F_a2.mv h16.mv).any) ((F_b1.mv h16.mv).any) ((F_b2.mv h16.mv).any)).mono ?_
          rintro e v16 ⟨rfl, hb16⟩
          refine ⟨hb16, [.bool (besideT withinI a b)], _, rfl, by kernel_rfl, by kernel_rfl, fun g16 => ?_⟩
          replace F_a1 := F_a1.mv g16.mv; replace F_a2 := F_a2.mv g16.mv; replace F_b1 := F_b1.mv g16.mv; replace F_b2 := F_b2.mv g16.mv; replace r_x := g16.rdD r_x; replace r_y := g16.rdD r_y; replace F_t11 := F_t11.mv g16.mv; replace F_t12 := F_t12.mv g16.mv; replace F_t21 := F_t21.mv g16.mv; replace F_t22 := F_t22.mv g16.mv; replace F_t31 := F_t31.mv g16.mv; replace F_t32 := F_t32.mv g16.mv; replace F_t41 := F_t41.mv g16.mv; replace F_t42 := F_t42.mv g16.mv; replace r_w5 := g16.rdD r_w5; replace r_w6 := g16.rdD r_w6
          clear h16 hb16
          refine sat_call #[.agg #[.slice A_a a.at_.length c_a, .slice B_a a.v.length d_a], .agg #[.slice A_b b.at_.length c_b, .slice B_b b.v.length d_b]] (by kernel_rfl) fun w17 h17 => ?_
          refine (rwithinT_any _ _ _ _ _ _ _ _ a b _ ((F_a1.mv h17.mv).any) ((F_a2.mv h17.mv).any) ((F_b1.mv h17.mv).any) ((F_b2.mv h17.mv).any)).mono ?_
          rintro e v17 ⟨rfl, hb17⟩
          refine ⟨hb17, [.bool (besideT withinI a b)], _, rfl, by kernel_rfl, by kernel_rfl, fun g17 => ?_⟩
          replace F_a1 := F_a1.mv g17.mv; replace F_a2 := F_a2.mv g17.mv; replace F_b1 := F_b1.mv g17.mv; replace F_b2 := F_b2.mv g17.mv; replace r_x := g17.rdD r_x; replace r_y := g17.rdD r_y; replace F_t11 := F_t11.mv g17.mv; replace F_t12 := F_t12.mv g17.mv; replace F_t21 := F_t21.mv g17.mv; replace F_t22 := F_t22.mv g17.mv; replace F_t31 := F_t31.mv g17.mv; replace F_t32 := F_t32.mv g17.mv; replace F_t41 := F_t41.mv g17.mv; replace F_t42 := F_t42.mv g17.mv; replace r_w5 := g17.rdD r_w5; replace r_w6 := g17.rdD r_w6
          clear h17 hb17
          refine sat_prim (v := .bool ((besideT withinI a b) == (besideT withinI a b))) (by kernel_rfl) ?_
          refine sat_trueP (b := ((besideT withinI a b) == (besideT withinI a b))) (by kernel_rfl) (by simp) ?_
          refine sat_call #[.agg #[.slice A_t1 p_t1.length c_t1, .slice B_t1 q_t1.length d_t1], .int .i64 x_t1, .agg #[.slice A_t2 p_t1.length c_t2, .slice B_t2 q_t1.length d_t2], .int .i64 x_t1] (by kernel_rfl) fun w18 h18 => ?_
          refine (same13_any _ _ _ _ _ _ _ _ (⟨p_t1, q_t1⟩ : Tb) x_t1 (⟨p_t1, q_t1⟩ : Tb) x_t1 _ ((F_t11.mv h18.mv).any) ((F_t12.mv h18.mv).any) ((F_t21.mv h18.mv).any) ((F_t22.mv h18.mv).any)).mono ?_
          rintro e v18 ⟨rfl, hb18⟩
          refine ⟨hb18, [.bool ((x_t1 == x_t1) && sameT (⟨p_t1, q_t1⟩ : Tb) (⟨p_t1, q_t1⟩ : Tb))], _, rfl, by kernel_rfl, by kernel_rfl, fun g18 => ?_⟩
          replace F_a1 := F_a1.mv g18.mv; replace F_a2 := F_a2.mv g18.mv; replace F_b1 := F_b1.mv g18.mv; replace F_b2 := F_b2.mv g18.mv; replace r_x := g18.rdD r_x; replace r_y := g18.rdD r_y; replace F_t11 := F_t11.mv g18.mv; replace F_t12 := F_t12.mv g18.mv; replace F_t21 := F_t21.mv g18.mv; replace F_t22 := F_t22.mv g18.mv; replace F_t31 := F_t31.mv g18.mv; replace F_t32 := F_t32.mv g18.mv; replace F_t41 := F_t41.mv g18.mv; replace F_t42 := F_t42.mv g18.mv; replace r_w5 := g18.rdD r_w5; replace r_w6 := g18.rdD r_w6
          clear h18 hb18
          refine sat_trueP (b := ((x_t1 == x_t1) && sameT (⟨p_t1, q_t1⟩ : Tb) (⟨p_t1, q_t1⟩ : Tb))) (by kernel_rfl) (by rw [sameT_self]; simp) ?_
          refine sat_call #[.agg #[.slice A_t3 p_t3.length c_t3, .slice B_t3 q_t3.length d_t3], .int .i64 x_t3, .agg #[.slice A_t4 p_t3.length c_t4, .slice B_t4 q_t3.length d_t4], .int .i64 x_t3] (by kernel_rfl) fun w19 h19 => ?_
          refine (same13_any _ _ _ _ _ _ _ _ (⟨p_t3, q_t3⟩ : Tb) x_t3 (⟨p_t3, q_t3⟩ : Tb) x_t3 _ ((F_t31.mv h19.mv).any) ((F_t32.mv h19.mv).any) ((F_t41.mv h19.mv).any) ((F_t42.mv h19.mv).any)).mono ?_
          rintro e v19 ⟨rfl, hb19⟩
          refine ⟨hb19, [.bool ((x_t3 == x_t3) && sameT (⟨p_t3, q_t3⟩ : Tb) (⟨p_t3, q_t3⟩ : Tb))], _, rfl, by kernel_rfl, by kernel_rfl, fun g19 => ?_⟩
          replace F_a1 := F_a1.mv g19.mv; replace F_a2 := F_a2.mv g19.mv; replace F_b1 := F_b1.mv g19.mv; replace F_b2 := F_b2.mv g19.mv; replace r_x := g19.rdD r_x; replace r_y := g19.rdD r_y; replace F_t11 := F_t11.mv g19.mv; replace F_t12 := F_t12.mv g19.mv; replace F_t21 := F_t21.mv g19.mv; replace F_t22 := F_t22.mv g19.mv; replace F_t31 := F_t31.mv g19.mv; replace F_t32 := F_t32.mv g19.mv; replace F_t41 := F_t41.mv g19.mv; replace F_t42 := F_t42.mv g19.mv; replace r_w5 := g19.rdD r_w5; replace r_w6 := g19.rdD r_w6
          clear h19 hb19
          refine sat_trueP (b := ((x_t3 == x_t3) && sameT (⟨p_t3, q_t3⟩ : Tb) (⟨p_t3, q_t3⟩ : Tb))) (by kernel_rfl) (by rw [sameT_self]; simp) ?_
          refine sat_prim (v := .bool ((x_w5 : Int) == x_w5)) (by kernel_rfl) ?_
          refine sat_trueP (b := ((x_w5 : Int) == x_w5)) (by kernel_rfl) (by simp) ?_
          refine sat_call #[.agg #[.bool d_w5.neg, .slice A_w5 n_w5 c_w5, .int .i64 d_w5.e], .agg #[.bool d_w5.neg, .slice A_w6 n_w6 c_w6, .int .i64 d_w5.e]] (by kernel_rfl) fun w20 h20 => ?_
          refine (rsame_any _ _ (d_w5) (d_w5) _ (h20.rdD r_w5) (h20.rdD r_w6)).mono ?_
          rintro e v20 ⟨rfl, hb20⟩
          refine ⟨hb20, [.bool (sameD d_w5 d_w5)], _, rfl, by kernel_rfl, by kernel_rfl, fun g20 => ?_⟩
          replace F_a1 := F_a1.mv g20.mv; replace F_a2 := F_a2.mv g20.mv; replace F_b1 := F_b1.mv g20.mv; replace F_b2 := F_b2.mv g20.mv; replace r_x := g20.rdD r_x; replace r_y := g20.rdD r_y; replace F_t11 := F_t11.mv g20.mv; replace F_t12 := F_t12.mv g20.mv; replace F_t21 := F_t21.mv g20.mv; replace F_t22 := F_t22.mv g20.mv; replace F_t31 := F_t31.mv g20.mv; replace F_t32 := F_t32.mv g20.mv; replace F_t41 := F_t41.mv g20.mv; replace F_t42 := F_t42.mv g20.mv; replace r_w5 := g20.rdD r_w5; replace r_w6 := g20.rdD r_w6
          clear h20 hb20
          exact sat_ret (.bool (sameD d_w5 d_w5)) (by kernel_rfl) fun w9 h9 => congrArg Value.bool (sameD_self _)
        · refine sat_true (by kernel_rfl) ?_
          refine sat_call #[] (by kernel_rfl) fun w7 h7 => ?_
          refine (told13_any _ (h7.tab hT)).mono ?_
          rintro e v7 ⟨rfl, hb7⟩
          refine ⟨hb7, [.bool true], _, rfl, by kernel_rfl, by kernel_rfl, fun g7 => ?_⟩
          replace F_a1 := F_a1.mv g7.mv; replace F_a2 := F_a2.mv g7.mv; replace F_b1 := F_b1.mv g7.mv; replace F_b2 := F_b2.mv g7.mv; replace r_x := g7.rdD r_x; replace r_y := g7.rdD r_y
          clear h7 hb7
          exact sat_ret (.bool true) (by kernel_rfl) fun w9 h9 => rfl
      · refine sat_true (by kernel_rfl) ?_
        refine sat_call #[] (by kernel_rfl) fun w6 h6 => ?_
        refine (told13_any _ (h6.tab hT)).mono ?_
        rintro e v6 ⟨rfl, hb6⟩
        refine ⟨hb6, [.bool true], _, rfl, by kernel_rfl, by kernel_rfl, fun g6 => ?_⟩
        replace F_a1 := F_a1.mv g6.mv; replace F_a2 := F_a2.mv g6.mv; replace F_b1 := F_b1.mv g6.mv; replace F_b2 := F_b2.mv g6.mv; replace r_x := g6.rdD r_x; replace r_y := g6.rdD r_y
        clear h6 hb6
        exact sat_ret (.bool true) (by kernel_rfl) fun w9 h9 => rfl

end Go.Proofs.YtbpfnooloemieaaGreatDoor
