/- Contracts of package nat, part D: copies, sums, differences. -/
import Derived.Test.YtaifjldpjkabjaaDoorKitB
import Derived.Lib.LazyBuf
namespace Go.Proofs.YtaifjldpjkabjaaDoor
open Go.RowKit Pl

theorem cell_alloc_keep {w : World} {p : Addr} {v : Value} (h : w.cell? p = some v) (o : Obj) : (w.alloc o).cell? p = some v := by
  rw [World.cell?_alloc_lt w o p (World.block_lt_of_cell? w p h)]
  exact h
theorem own_some {w : World} {base n c : Nat} {A : Option Addr} {e : TypeId} {sz : Nat} {xs : List Value} (h : w.ownsRow base e sz (.slice A n c) n xs) (hn : 0 < n) : ∃ g, A = some ⟨g, 0, none⟩ ∧ base ≤ g := by
  obtain ⟨_, ⟨hv, h0⟩ | ⟨g, cap, cur, hv, hg, _⟩⟩ := h
  · omega
  · injection hv with e1
    exact ⟨g, e1, hg⟩
theorem U_news {w : World} {b off n : Nat} {xs : List Nat} (hl : xs.length = n) (hc : ∀ k, k < n → w.cell? ⟨b, off + k, none⟩ = some (.int .u64 (nth xs k : Nat))) :
    ∀ j u, (U .u64 xs)[j]? = some u → w.cell? ((⟨b, off, none⟩ : Addr).add j) = some u := by
  intro j u hj
  have hjl : j < xs.length := by
    have := (List.getElem?_eq_some_iff.1 hj).1
    rwa [U_len] at this
  rw [U_at hjl] at hj
  have hadd : (⟨b, off, none⟩ : Addr).add j = ⟨b, off + j, none⟩ := by unfold Addr.add; split <;> simp_all
  rw [hadd, hc j (by omega)]
  exact hj
theorem U_one {xs : List Nat} : ∀ u ∈ U .u64 xs, u.oneCell' = true := by
  intro u hu
  unfold U at hu
  obtain ⟨x, _, rfl⟩ := List.mem_map.1 hu
  rfl

set_option maxRecDepth 100000 in
set_option maxHeartbeats 1000000 in
theorem clone_any (A : Option Addr) (n c : Nat) (xs : List Nat) (w : World) (h : RdN .u64 w A n c xs) (hn : n ≤ 1000000) :
    Calls Tryd.prog 109 #[.slice A n c] w fun e w' => ∃ v, e = .returned v ∧ w'.ownsRow w.heap.size 38 1 v n (U .u64 xs) ∧ Below w.heap.size w w' := by
  obtain ⟨hlen, hcap, hmax, hat⟩ := h
  obtain ⟨i0, hi, hz0, hz1, hz2⟩ := info_parts info_u64
  subst hlen
  rcases A with _ | ⟨b, off, sp⟩
  · have h0 : xs.length = 0 := by
      rcases Nat.eq_zero_or_pos xs.length with h | h
      · exact h
      · obtain ⟨_, _, e, _⟩ := hat h; cases e
    obtain rfl : xs = [] := List.length_eq_zero_iff.1 h0
    have hq := fun w => Lib.run_eql_slice_nil (P := Tryd.prog) w 22 38 none 0 c 0 0 Tryd.underlying22
    simp only [List.length_nil]
    go_enter Tryd.func109, Tryd.ntmps109
    go_wp2
    go_ret
    exact ⟨_, rfl, World.ownsRow_nil _ _ _ _, Below.refl _ _⟩
  · have hnews : ∀ j u, (U .u64 xs)[j]? = some u → (w.alloc (.cells #[] 38)).cell? ((⟨b, off, sp⟩ : Addr).add j) = some u := by
      intro j u hj
      have hjl : j < xs.length := by
        have := (List.getElem?_eq_some_iff.1 hj).1
        rwa [U_len] at this
      obtain ⟨b', off', e, hb, hc⟩ := hat (by omega)
      injection e with e
      injection e with e1 e2 e3
      subst e1 e2 e3
      refine cell_alloc_keep ?_ _
      exact U_news rfl hc j u hj
    have hq := fun w => Lib.run_eql_slice_nil (P := Tryd.prog) w 22 38 (some ⟨b, off, sp⟩) xs.length c 0 0 Tryd.underlying22
    go_enter Tryd.func109, Tryd.ntmps109
    go_wp2_with (at_builtin; go_loud (refine wpList_append_own _ rfl _ _ 22 rfl w.heap.size 38 i0 (.int .u64 0) 1 8 Tryd.underlying22 hi hz0 hz1 hz2 rfl (by decide) (.slice (some ⟨w.heap.size, 0, none⟩) 0 0) 0 [] rfl (World.ownsRow_made w #[] 0 (Nat.le_refl _) (by unfold maxLen; omega) (by simp)) ⟨b, off, sp⟩ xs.length c (U .u64 xs) rfl (by rw [U_len, Nat.mul_one]) hnews U_one (by unfold maxLen; omega) (by omega) (by simp) ?_))
    intro v' w1 hown1 hg1 _
    have hb1 : Below w.heap.size w w1 := ((Below.refl w.heap.size w).alloc (Nat.le_refl _) _).grown hg1 (by simp) (fun k hk => by simp [Value.ownBlock] at hk; omega)
    go_wp2
    go_ret
    exact ⟨_, rfl, hown1, hb1⟩

theorem trim_row {w : World} {base n : Nat} {v : Value} {e : TypeId} {o : List Nat} (h : w.ownsRow base e 1 v n (U .u64 o)) (hl : Lim BB o) : ∃ A c, v = .slice A n c ∧ RdN .u64 w A n c o ∧ RdN .u64 w A (limbs BB (val BB o)).length c (limbs BB (val BB o)) := by
  obtain ⟨A, c, rfl⟩ := own_slice h
  have hrd := RdN.of_own h
  refine ⟨A, c, rfl, hrd, ?_⟩
  have h2 := hrd.take (trimL_len o |> fun h' => by rw [own_len h] at h'; exact h')
  rw [← trimL_take, trimL_limbs BB_gt1 hl] at h2
  exact h2

set_option maxRecDepth 100000 in
set_option maxHeartbeats 1000000 in
theorem norm_any (A : Option Addr) (n c : Nat) (xs : List Nat) (w : World) (h : RdN .u64 w A n c xs) (hl : Lim BB xs) (hn : n ≤ 1000000) :
    Calls Tryd.prog 73 #[.slice A n c] w fun e w' => ∃ v, e = .returned v ∧ R64 w' v (val BB xs) ∧ Below w.heap.size w w' := by
  have hlen := h.len
  have h2 : RdN .u64 w A (trimL xs).length c (trimL xs) := by
    have h2 := h.take (m := (trimL xs).length) (by have := trimL_len xs; omega)
    rwa [← trimL_take] at h2
  have h3 := trimL_len xs
  go_enter Tryd.func73, Tryd.ntmps73
  go_wp2_with (go_at_call 110; refine (trim_any _ _ _ _ _ h).mono ?_; rintro e w' ⟨rfl, rfl⟩)
  refine (clone_any A (trimL xs).length c (trimL xs) _ h2 (by omega)).mono ?_
  rintro x w1 ⟨v, rfl, hown, hb⟩
  go_wp2
  go_ret
  obtain ⟨A', c', rfl⟩ := own_slice hown
  refine ⟨_, rfl, ⟨_, _, _, rfl, ?_⟩, hb⟩
  rw [← trimL_limbs BB_gt1 hl]
  exact RdN.of_own hown

set_option maxRecDepth 100000 in
set_option maxHeartbeats 2000000 in
theorem minus_any (A : Option Addr) (n c : Nat) (xs : List Nat) (B : Option Addr) (m d : Nat) (ys : List Nat) (w : World) (h : RdN .u64 w A n c xs) (k : RdN .u64 w B m d ys) (hl : Lim BB xs) (kl : Lim BB ys) (hn : n ≤ 100000) (hmn : m ≤ n) (hle : val BB ys ≤ val BB xs) :
    Calls Tryd.prog 115 #[.slice A n c, .slice B m d] w fun e w' => ∃ v, e = .returned v ∧ R64 w' v (val BB xs - val BB ys) ∧ Below w.heap.size w w' := by
  have h' := h
  obtain ⟨klen, kcap, kmax, kat⟩ := k
  have hlen := h.len
  unfold maxLen at kmax
  subst hlen klen
  go_enter Tryd.func115, Tryd.ntmps115
  go_wp2_with fail
  refine (clone_any A xs.length c xs _ h' (by omega)).mono ?_
  rintro x w1 ⟨v, rfl, hown1, hb1⟩
  obtain ⟨A', c', rfl⟩ := own_slice hown1
  go_wp2
  go_loopw [6, 13] (fun q i wr => ∃ (k : Nat) (o : List Nat) (cy : Nat), k ≤ xs.length ∧ i = .int .i64 (k : Int) ∧ q = .int .u64 (cy : Int) ∧ Hid (MinusInv BB xs ys o cy k) ∧
    wr.ownsRow w.heap.size 38 1 (.slice A' xs.length c') xs.length (U .u64 o) ∧ Below w.heap.size w wr) (fun _ i _ => xs.length - (intOf i).toNat)
  case atStart => exact ⟨0, xs, 0, Nat.zero_le _, rfl, rfl, hide (MinusInv.start ys hl), hown1, hb1⟩
  case round =>
    obtain ⟨k, o, cy, hk, rfl, rfl, hinv, hown, hbw⟩ := hrel
    rcases Nat.lt_or_ge k xs.length with hlt | hge
    · obtain ⟨g, rfl, hg⟩ := own_some hown (by omega)
      have hA := own_cell hown k hlt
      have fA := hown.frozenAt k
      have hcy : cy ≤ 1 := hinv.out.car
      rcases Nat.lt_or_ge k ys.length with hy | hy
      · obtain ⟨b, off, rfl, hb, hc⟩ := kat (by omega)
        have hcell := RdN.cellW hc hb hbw k hy
        have hs := sub64 (nth o k) (nth ys k) cy hcy
        clear kat hc hcy
        go_wp2
        go_roundw
        case rel => exact ⟨k + 1, _, _, by omega, by go_num, rfl, hide (hinv.out.step BB_gt1 kl hlt), own_set hown k _, hbw.setCell hg _⟩
        case measure => simp [intOf]; omega
      · have hs := sub64 (nth o k) 0 cy hcy
        have hz : ys.getD k 0 = 0 := by simp [List.getD_eq_getElem?_getD, List.getElem?_eq_none hy]
        obtain ⟨r, hr⟩ : ∃ r, r = (nth o k + BB - 0 - cy) % BB := ⟨_, rfl⟩
        obtain ⟨q, hq⟩ : ∃ q : Nat, q = (if nth o k < 0 + cy then 1 else 0) := ⟨_, rfl⟩
        rw [← hr, ← hq, Int.natCast_zero] at hs
        have h3 := hinv.out.step BB_gt1 kl hlt
        rw [hz] at h3
        have e1 : (o.getD k 0 + BB - 0 - cy) % BB = r := hr.symm
        have e2 : (if o.getD k 0 < 0 + cy then 1 else 0) = q := hq.symm
        rw [e1, e2] at h3
        have H3 := hide h3
        clear kat hcy hr hq hz h3 e1 e2
        go_wp2
        go_roundw
        case rel => exact ⟨k + 1, _, q, by omega, by go_num, rfl, H3, own_set hown k r, hbw.setCell hg _⟩
        case measure => simp [intOf]; omega
    · obtain rfl : k = xs.length := by omega
      have hi := hinv.out
      have hv := hide (hi.last hmn hle)
      have hlo := hi.lim
      obtain ⟨A2, c2, e2, hrd, hr2⟩ := trim_row hown hlo
      injection e2 with e21 e22 e23
      subst e21 e23
      clear hi hinv
      go_wp2_with (go_at_call 110; refine (trim_any _ _ _ _ _ hrd).mono ?_; rintro e w' ⟨rfl, rfl⟩)
      go_ret
      have et := trimL_limbs BB_gt1 hlo
      rw [hv.out] at hr2 et
      refine ⟨.slice A' (trimL o).length c', rfl, ⟨_, _, _, rfl, ?_⟩, hbw⟩
      rw [et]
      exact hr2
end Go.Proofs.YtaifjldpjkabjaaDoor
