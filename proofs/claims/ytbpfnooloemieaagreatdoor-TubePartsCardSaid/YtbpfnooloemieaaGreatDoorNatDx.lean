/- Contracts of package nat, part D: copies, sums, differences. Contracts of package nat, part E: sums, products. -/
import Derived.Test.YtbpfnooloemieaaGreatDoorKitBx
import Derived.Lib.LazyBuf
namespace Go.Proofs.YtbpfnooloemieaaGreatDoor
open Go.RowKit Pl

theorem cell_alloc_keep {w : World} {p : Addr} {v : Value} (h : w.cell? p = some v) (o : Obj) : (w.alloc o).cell? p = some v := by
  rw [World.cell?_alloc_lt w o p (World.block_lt_of_cell? w p h)]
  exact h
theorem own_some {w : World} {base n c : Nat} {A : Option Addr} {e : TypeId} {sz : Nat} {xs : List Value} (h : w.ownsRow base e sz (.slice A n c) n xs) (hn : 0 < n) : ∃ g, A = some ⟨g, 0, none⟩ ∧ base ≤ g := by
  obtain ⟨_, ⟨hv, h0⟩ | ⟨g, cap, cur, hv, hg, _⟩⟩ := h
  · omega
  · injection hv with e1
    exact ⟨g, e1, hg⟩
theorem U_news {w : World} {b off n : Nat} {xs : List Nat} (hl : xs.length = n) (hc : ∀ k, k < n → w.cell? ⟨b, off + k, none⟩ = some (.int .u64 (nth xs k : Nat))) :
    ∀ j u, (U .u64 xs)[j]? = some u → w.cell? ((⟨b, off, none⟩ : Addr).add j) = some u := by
  intro j u hj
  have hjl : j < xs.length := by
    have := (List.getElem?_eq_some_iff.1 hj).1
    rwa [U_len] at this
  rw [U_at hjl] at hj
  have hadd : (⟨b, off, none⟩ : Addr).add j = ⟨b, off + j, none⟩ := by unfold Addr.add; split <;> simp_all
  rw [hadd, hc j (by omega)]
  exact hj
theorem U_one {xs : List Nat} : ∀ u ∈ U .u64 xs, u.oneCell' = true := by
  intro u hu
  unfold U at hu
  obtain ⟨x, _, rfl⟩ := List.mem_map.1 hu
  rfl

set_option maxRecDepth 100000 in
set_option maxHeartbeats 1000000 in
theorem clone_any (A : Option Addr) (n c : Nat) (xs : List Nat) (w : World) (h : RdN .u64 w A n c xs) (hn : n ≤ 1000000) :
    Calls Tryz.prog 141 #[.slice A n c] w fun e w' => ∃ v, e = .returned v ∧ w'.ownsRow w.heap.size 50 1 v n (U .u64 xs) ∧ Below w.heap.size w w' := by
  obtain ⟨hlen, hcap, hmax, hat⟩ := h
  obtain ⟨i0, hi, hz0, hz1, hz2⟩ := info_parts info_u64
  subst hlen
  rcases A with _ | ⟨b, off, sp⟩
  · have h0 : xs.length = 0 := by
      rcases Nat.eq_zero_or_pos xs.length with h | h
      · exact h
      · obtain ⟨_, _, e, _⟩ := hat h; cases e
    obtain rfl : xs = [] := List.length_eq_zero_iff.1 h0
    have hq := fun w => Lib.run_eql_slice_nil (P := Tryz.prog) w 28 50 none 0 c 0 0 Tryz.underlying28
    simp only [List.length_nil]
    go_enter Tryz.func141, Tryz.ntmps141
    go_wp2
    go_ret
    exact ⟨_, rfl, World.ownsRow_nil _ _ _ _, Below.refl _ _⟩
  · have hnews : ∀ j u, (U .u64 xs)[j]? = some u → (w.alloc (.cells #[] 50)).cell? ((⟨b, off, sp⟩ : Addr).add j) = some u := by
      intro j u hj
      have hjl : j < xs.length := by
        have := (List.getElem?_eq_some_iff.1 hj).1
        rwa [U_len] at this
      obtain ⟨b', off', e, hb, hc⟩ := hat (by omega)
      injection e with e
      injection e with e1 e2 e3
      subst e1 e2 e3
      refine cell_alloc_keep ?_ _
      exact U_news rfl hc j u hj
    have hq := fun w => Lib.run_eql_slice_nil (P := Tryz.prog) w 28 50 (some ⟨b, off, sp⟩) xs.length c 0 0 Tryz.underlying28
    go_enter Tryz.func141, Tryz.ntmps141
    go_wp2_with (at_builtin; go_loud (refine wpList_append_own _ rfl _ _ 28 rfl w.heap.size 50 i0 (.int .u64 0) 1 8 Tryz.underlying28 hi hz0 hz1 hz2 rfl (by decide) (.slice (some ⟨w.heap.size, 0, none⟩) 0 0) 0 [] rfl (World.ownsRow_made w #[] 0 (Nat.le_refl _) (by unfold maxLen; omega) (by simp)) ⟨b, off, sp⟩ xs.length c (U .u64 xs) rfl (by rw [U_len, Nat.mul_one]) hnews U_one (by unfold maxLen; omega) (by omega) (by simp) ?_))
    intro v' w1 hown1 hg1 _
    have hb1 : Below w.heap.size w w1 := ((Below.refl w.heap.size w).alloc (Nat.le_refl _) _).grown hg1 (by simp) (fun k hk => by simp [Value.ownBlock] at hk; omega)
    go_wp2
    go_ret
    exact ⟨_, rfl, hown1, hb1⟩

theorem trim_row {w : World} {base n : Nat} {v : Value} {e : TypeId} {o : List Nat} (h : w.ownsRow base e 1 v n (U .u64 o)) (hl : Lim BB o) : ∃ A c, v = .slice A n c ∧ RdN .u64 w A n c o ∧ RdN .u64 w A (limbs BB (val BB o)).length c (limbs BB (val BB o)) := by
  obtain ⟨A, c, rfl⟩ := own_slice h
  have hrd := RdN.of_own h
  refine ⟨A, c, rfl, hrd, ?_⟩
  have h2 := hrd.take (trimL_len o |> fun h' => by rw [own_len h] at h'; exact h')
  rw [← trimL_take, trimL_limbs BB_gt1 hl] at h2
  exact h2

set_option maxRecDepth 100000 in
set_option maxHeartbeats 2000000 in
theorem minus_any (A : Option Addr) (n c : Nat) (xs : List Nat) (B : Option Addr) (m d : Nat) (ys : List Nat) (w : World) (h : RdN .u64 w A n c xs) (k : RdN .u64 w B m d ys) (hl : Lim BB xs) (kl : Lim BB ys) (hn : n ≤ 100000) (hmn : m ≤ n) (hle : val BB ys ≤ val BB xs) :
    Calls Tryz.prog 128 #[.slice A n c, .slice B m d] w fun e w' => ∃ v, e = .returned v ∧ R64 w' v (val BB xs - val BB ys) ∧ Below w.heap.size w w' := by
  have h' := h
  obtain ⟨klen, kcap, kmax, kat⟩ := k
  have hlen := h.len
  unfold maxLen at kmax
  subst hlen klen
  go_enter Tryz.func128, Tryz.ntmps128
  go_wp2_with fail
  refine (clone_any A xs.length c xs _ h' (by omega)).mono ?_
  rintro x w1 ⟨v, rfl, hown1, hb1⟩
  obtain ⟨A', c', rfl⟩ := own_slice hown1
  go_wp2
  go_loopw [6, 13] (fun q i wr => ∃ (k : Nat) (o : List Nat) (cy : Nat), k ≤ xs.length ∧ i = .int .i64 (k : Int) ∧ q = .int .u64 (cy : Int) ∧ Hid (MinusInv BB xs ys o cy k) ∧
    wr.ownsRow w.heap.size 50 1 (.slice A' xs.length c') xs.length (U .u64 o) ∧ Below w.heap.size w wr) (fun _ i _ => xs.length - (intOf i).toNat)
  case atStart => exact ⟨0, xs, 0, Nat.zero_le _, rfl, rfl, hide (MinusInv.start ys hl), hown1, hb1⟩
  case round =>
    obtain ⟨k, o, cy, hk, rfl, rfl, hinv, hown, hbw⟩ := hrel
    rcases Nat.lt_or_ge k xs.length with hlt | hge
    · obtain ⟨g, rfl, hg⟩ := own_some hown (by omega)
      have hA := own_cell hown k hlt
      have fA := hown.frozenAt k
      have hcy : cy ≤ 1 := hinv.out.car
      rcases Nat.lt_or_ge k ys.length with hy | hy
      · obtain ⟨b, off, rfl, hb, hc⟩ := kat (by omega)
        have hcell := RdN.cellW hc hb hbw k hy
        have hs := sub64 (nth o k) (nth ys k) cy hcy
        clear kat hc hcy
        go_wp2
        go_roundw
        case rel => exact ⟨k + 1, _, _, by omega, by go_num, rfl, hide (hinv.out.step BB_gt1 kl hlt), own_set hown k _, hbw.setCell hg _⟩
        case measure => simp [intOf]; omega
      · have hs := sub64 (nth o k) 0 cy hcy
        have hz : ys.getD k 0 = 0 := by simp [List.getD_eq_getElem?_getD, List.getElem?_eq_none hy]
        obtain ⟨r, hr⟩ : ∃ r, r = (nth o k + BB - 0 - cy) % BB := ⟨_, rfl⟩
        obtain ⟨q, hq⟩ : ∃ q : Nat, q = (if nth o k < 0 + cy then 1 else 0) := ⟨_, rfl⟩
        rw [← hr, ← hq, Int.natCast_zero] at hs
        have h3 := hinv.out.step BB_gt1 kl hlt
        rw [hz] at h3
        have e1 : (o.getD k 0 + BB - 0 - cy) % BB = r := hr.symm
        have e2 : (if o.getD k 0 < 0 + cy then 1 else 0) = q := hq.symm
        rw [e1, e2] at h3
        have H3 := hide h3
        clear kat hcy hr hq hz h3 e1 e2
        go_wp2
        go_roundw
        case rel => exact ⟨k + 1, _, q, by omega, by go_num, rfl, H3, own_set hown k r, hbw.setCell hg _⟩
        case measure => simp [intOf]; omega
    · obtain rfl : k = xs.length := by omega
      have hi := hinv.out
      have hv := hide (hi.last hmn hle)
      have hlo := hi.lim
      obtain ⟨A2, c2, e2, hrd, hr2⟩ := trim_row hown hlo
      injection e2 with e21 e22 e23
      subst e21 e23
      clear hi hinv
      go_wp2_with (go_at_call 131; refine (trim_any _ _ _ _ _ hrd).mono ?_; rintro e w' ⟨rfl, rfl⟩)
      go_ret
      have et := trimL_limbs BB_gt1 hlo
      rw [hv.out] at hr2 et
      refine ⟨.slice A' (trimL o).length c', rfl, ⟨_, _, _, rfl, ?_⟩, hbw⟩
      rw [et]
      exact hr2
end Go.Proofs.YtbpfnooloemieaaGreatDoor
namespace Go.Proofs.YtbpfnooloemieaaGreatDoor
open Go.RowKit Pl

set_option maxRecDepth 100000 in
set_option maxHeartbeats 2000000 in
theorem plus_any (A : Option Addr) (n c : Nat) (xs : List Nat) (B : Option Addr) (m d : Nat) (ys : List Nat) (w : World) (h : RdN .u64 w A n c xs) (k : RdN .u64 w B m d ys) (hl : Lim BB xs) (kl : Lim BB ys) (hn : n ≤ 100000) (hm : m ≤ 100000) :
    Calls Tryz.prog 127 #[.slice A n c, .slice B m d] w fun e w' => ∃ v, e = .returned v ∧ R64 w' v (val BB xs + val BB ys) ∧ Below w.heap.size w w' := by
  have hlen := h.len
  have klen := k.len
  obtain ⟨i0, hi, hz0, hz1, hz2⟩ := info_parts info_u64
  have H := hide h
  have K := hide k
  clear h k
  go_enter Tryz.func127, Tryz.ntmps127
  go_wp2_with fail
  go_step3
  go_upto_if 13 with fail
  go_cut [0, 1] (fun s0 s1 wx => ∃ (A' : Option Addr) (n' c' : Nat) (xs' : List Nat) (B' : Option Addr) (m' d' : Nat) (ys' : List Nat), s0 = .slice A' n' c' ∧ s1 = .slice B' m' d' ∧ RdN .u64 w A' n' c' xs' ∧ RdN .u64 w B' m' d' ys' ∧ Lim BB xs' ∧ Lim BB ys' ∧ n' ≤ 100000 ∧ m' ≤ n' ∧ val BB xs' + val BB ys' = val BB xs + val BB ys ∧ wx = w)
  case first =>
    by_cases hlt : n < m
    · have e1 : decide (n < m) = true := by simpa using hlt
      go_wp2
      go_meet
      exact ⟨B, m, d, ys, A, n, c, xs, rfl, rfl, K.out, H.out, kl, hl, hm, by omega, Nat.add_comm _ _, rfl⟩
    · have e1 : decide (n < m) = false := by simpa using hlt
      go_wp2
      go_meet
      exact ⟨A, n, c, xs, B, m, d, ys, rfl, rfl, H.out, K.out, hl, kl, hn, by omega, rfl, rfl⟩
  clear H K hlen klen hl kl hn hm
  obtain ⟨A, n, c, us, B, m, d, bs, rfl, rfl, h, k, hl, kl, hn, hmn, hsum, rfl⟩ := hcut
  have HS := hide hsum
  clear hsum
  have h' := h
  have hlen := h.len
  obtain ⟨klen, kcap, kmax, kat⟩ := k
  unfold maxLen at kmax
  subst hlen klen
  go_wp2_with fail
  refine (clone_any A us.length c us _ h' (by omega)).mono ?_
  rintro x w1 ⟨v, rfl, hown1, hb1⟩
  go_wp2_with (at_builtin; go_loud (refine wpList_append_own _ rfl _ _ 28 rfl wc.heap.size 50 i0 (.int .u64 0) 1 8 Tryz.underlying28 hi hz0 hz1 hz2 rfl (by decide) _ _ _ rfl (hown1.alloc _) ⟨w1.heap.size, 0, none⟩ 1 1 [.int .u64 0] rfl rfl new_one (one_int _ _) (by unfold maxLen; omega) (by omega) (base_app hb1) ?_))
  intro v' w2 hown2 hg2 _
  have hb2 := below_app hb1 hown1 hg2
  rw [U_snoc _ _ _ 0 rfl] at hown2
  obtain ⟨A', c', rfl⟩ := own_slice hown2
  obtain ⟨g, rfl, hg⟩ := own_some hown2 (by omega)
  clear hown1 hg2 hb1 h h'
  go_wp2_with fail
  go_step3
  go_wp2_with fail
  go_loopw [6, 22] (fun q i wr => ∃ (k : Nat) (o : List Nat) (cy : Nat), k ≤ us.length + 1 ∧ i = .int .i64 (k : Int) ∧ q = .int .u64 (cy : Int) ∧ Hid (PlusInv BB (us ++ [0]) bs o cy k) ∧
    wr.ownsRow wc.heap.size 50 1 (.slice (some ⟨g, 0, none⟩) (us.length + 1) c') (us.length + 1) (U .u64 o) ∧ Below wc.heap.size wc wr) (fun _ i _ => us.length + 1 - (intOf i).toNat)
  case atStart => exact ⟨0, us ++ [0], 0, Nat.zero_le _, rfl, rfl, hide (PlusInv.start bs (hl.append (Lim.cons BB_pos Lim.nil))), hown2, hb2⟩
  case round =>
    obtain ⟨k, o, cy, hk, rfl, rfl, hinv, hown, hbw⟩ := hrel
    have fin : ∀ (V : Nat), V = val BB o → Lim BB o → Hid (V = val BB us + val BB bs) → Hid (∃ A2 c2, (Value.slice (some ⟨g, 0, none⟩) (trimL o).length c' = .slice A2 (limbs BB (val BB xs + val BB ys)).length c2) ∧ RdN .u64 wr A2 (limbs BB (val BB xs + val BB ys)).length c2 (limbs BB (val BB xs + val BB ys))) := by
      intro V hV hlo hS
      obtain ⟨A2, c2, e2, hrd, hr2⟩ := trim_row hown hlo
      injection e2 with e21 e22 e23
      subst e21 e23
      have e : val BB o = val BB xs + val BB ys := by rw [← HS.out, ← hS.out, hV]
      rw [e] at hr2
      refine ⟨_, _, ?_, hr2⟩
      rw [trimL_limbs BB_gt1 hlo, e]
    have hrd := RdN.of_own hown
    rcases Nat.lt_or_ge k (us.length + 1) with hlt | hge
    · have hA := own_cell hown k hlt
      have fA := hown.frozenAt k
      have hcy : cy ≤ 1 := hinv.out.car
      rcases Nat.lt_or_ge k bs.length with hy | hy
      · obtain ⟨b, off, rfl, hb, hc⟩ := kat (by omega)
        have hcell := RdN.cellW hc hb hbw k hy
        have hs := add64 (nth o k) (nth bs k) cy hcy
        clear kat hc hcy fin hrd
        go_wp2
        go_roundw
        case rel => exact ⟨k + 1, _, _, by omega, by go_num, rfl, hide (hinv.out.step BB_gt1 kl (by simpa using hlt)), own_set hown k _, hbw.setCell hg _⟩
        case measure => simp [intOf]; omega
      · by_cases hc0 : cy = 0
        · subst hc0
          have hv := hinv.out.early hy
          have hF := fin _ rfl hinv.out.lim (by unfold Hid; rw [hv, val_append]; simp)
          clear kat hcy fin hv hinv
          go_wp2_with (go_at_call 131; refine (trim_any _ _ _ _ _ hrd).mono ?_; rintro e w' ⟨rfl, rfl⟩)
          rw [Exit.noGoto_ret]
          go_ret
          obtain ⟨A2, c2, e2, hr2⟩ := hF.out
          exact ⟨_, rfl, ⟨A2, _, c2, e2, hr2⟩, hbw⟩
        · have ec : ((cy : Int) == 0) = false := beq_eq_false_iff_ne.2 (by omega)
          have hs := add64 (nth o k) 0 cy hcy
          have hz : bs.getD k 0 = 0 := by simp [List.getD_eq_getElem?_getD, List.getElem?_eq_none hy]
          obtain ⟨r, hr⟩ : ∃ r, r = (nth o k + 0 + cy) % BB := ⟨_, rfl⟩
          obtain ⟨q, hq⟩ : ∃ q : Nat, q = (nth o k + 0 + cy) / BB := ⟨_, rfl⟩
          rw [← hr, ← hq, Int.natCast_zero] at hs
          have h3 := hinv.out.step BB_gt1 kl (by simpa using hlt)
          rw [hz] at h3
          have e1 : (o.getD k 0 + 0 + cy) % BB = r := hr.symm
          have e2 : (o.getD k 0 + 0 + cy) / BB = q := hq.symm
          rw [e1, e2] at h3
          have H3 := hide h3
          clear kat hcy hr hq hz h3 e1 e2 hc0 fin hrd
          go_wp2
          go_roundw
          case rel => exact ⟨k + 1, _, q, by omega, by go_num, rfl, H3, own_set hown k r, hbw.setCell hg _⟩
          case measure => simp [intOf]; omega
    · obtain rfl : k = us.length + 1 := by omega
      have hv := hinv.out.last BB_gt1 hl kl hmn
      have hF := fin _ rfl hinv.out.lim hv
      clear kat fin hv hinv
      go_wp2_with (go_at_call 131; refine (trim_any _ _ _ _ _ hrd).mono ?_; rintro e w' ⟨rfl, rfl⟩)
      rw [Exit.noGoto_ret]
      go_ret
      obtain ⟨A2, c2, e2, hr2⟩ := hF.out
      exact ⟨_, rfl, ⟨A2, _, c2, e2, hr2⟩, hbw⟩

end Go.Proofs.YtbpfnooloemieaaGreatDoor
