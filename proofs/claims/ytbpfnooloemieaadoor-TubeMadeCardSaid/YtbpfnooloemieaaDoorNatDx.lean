/- Contracts of package nat, part D: copies, sums, differences. Contracts of package nat, part E: sums, products. -/
import Derived.Test.YtbpfnooloemieaaDoorKitBx
import Derived.Lib.LazyBuf
namespace Go.Proofs.YtbpfnooloemieaaDoor
open Go.RowKit Pl

theorem cell_alloc_keep {w : World} {p : Addr} {v : Value} (h : w.cell? p = some v) (o : Obj) : (w.alloc o).cell? p = some v := by
  rw [World.cell?_alloc_lt w o p (World.block_lt_of_cell? w p h)]
  exact h
theorem own_some {w : World} {base n c : Nat} {A : Option Addr} {e : TypeId} {sz : Nat} {xs : List Value} (h : w.ownsRow base e sz (.slice A n c) n xs) (hn : 0 < n) : ∃ g, A = some ⟨g, 0, none⟩ ∧ base ≤ g := by
  obtain ⟨_, ⟨hv, h0⟩ | ⟨g, cap, cur, hv, hg, _⟩⟩ := h
  · omega
  · injection hv with e1
    exact ⟨g, e1, hg⟩
theorem U_news {w : World} {b off n : Nat} {xs : List Nat} (hl : xs.length = n) (hc : ∀ k, k < n → w.cell? ⟨b, off + k, none⟩ = some (.int .u64 (nth xs k : Nat))) :
    ∀ j u, (U .u64 xs)[j]? = some u → w.cell? ((⟨b, off, none⟩ : Addr).add j) = some u := by
  intro j u hj
  have hjl : j < xs.length := by
    have := (List.getElem?_eq_some_iff.1 hj).1
    rwa [U_len] at this
  rw [U_at hjl] at hj
  have hadd : (⟨b, off, none⟩ : Addr).add j = ⟨b, off + j, none⟩ := by unfold Addr.add; split <;> simp_all
  rw [hadd, hc j (by omega)]
  exact hj
theorem U_one {xs : List Nat} : ∀ u ∈ U .u64 xs, u.oneCell' = true := by
  intro u hu
  unfold U at hu
  obtain ⟨x, _, rfl⟩ := List.mem_map.1 hu
  rfl

set_option maxRecDepth 100000 in
set_option maxHeartbeats 1000000 in
theorem clone_any (A : Option Addr) (n c : Nat) (xs : List Nat) (w : World) (h : RdN .u64 w A n c xs) (hn : n ≤ 1000000) :
    Calls Tryd.prog 110 #[.slice A n c] w fun e w' => ∃ v, e = .returned v ∧ w'.ownsRow w.heap.size 67 1 v n (U .u64 xs) ∧ Below w.heap.size w w' := by
  obtain ⟨hlen, hcap, hmax, hat⟩ := h
  obtain ⟨i0, hi, hz0, hz1, hz2⟩ := info_parts info_u64
  subst hlen
  rcases A with _ | ⟨b, off, sp⟩
  · have h0 : xs.length = 0 := by
      rcases Nat.eq_zero_or_pos xs.length with h | h
      · exact h
      · obtain ⟨_, _, e, _⟩ := hat h; cases e
    obtain rfl : xs = [] := List.length_eq_zero_iff.1 h0
    have hq := fun w => Lib.run_eql_slice_nil (P := Tryd.prog) w 33 67 none 0 c 0 0 Tryd.underlying33
    simp only [List.length_nil]
    go_enter Tryd.func110, Tryd.ntmps110
    go_wp2
    go_ret
    exact ⟨_, rfl, World.ownsRow_nil _ _ _ _, Below.refl _ _⟩
  · have hnews : ∀ j u, (U .u64 xs)[j]? = some u → (w.alloc (.cells #[] 67)).cell? ((⟨b, off, sp⟩ : Addr).add j) = some u := by
      intro j u hj
      have hjl : j < xs.length := by
        have := (List.getElem?_eq_some_iff.1 hj).1
        rwa [U_len] at this
      obtain ⟨b', off', e, hb, hc⟩ := hat (by omega)
      injection e with e
      injection e with e1 e2 e3
      subst e1 e2 e3
      refine cell_alloc_keep ?_ _
      exact U_news rfl hc j u hj
    have hq := fun w => Lib.run_eql_slice_nil (P := Tryd.prog) w 33 67 (some ⟨b, off, sp⟩) xs.length c 0 0 Tryd.underlying33
    go_enter Tryd.func110, Tryd.ntmps110
    go_wp2_with (at_builtin; go_loud (refine wpList_append_own _ rfl _ _ 33 rfl w.heap.size 67 i0 (.int .u64 0) 1 8 Tryd.underlying33 hi hz0 hz1 hz2 rfl (by decide) (.slice (some ⟨w.heap.size, 0, none⟩) 0 0) 0 [] rfl (World.ownsRow_made w #[] 0 (Nat.le_refl _) (by unfold maxLen; omega) (by simp)) ⟨b, off, sp⟩ xs.length c (U .u64 xs) rfl (by rw [U_len, Nat.mul_one]) hnews U_one (by unfold maxLen; omega) (by omega) (by simp) ?_))
    intro v' w1 hown1 hg1 _
    have hb1 : Below w.heap.size w w1 := ((Below.refl w.heap.size w).alloc (Nat.le_refl _) _).grown hg1 (by simp) (fun k hk => by simp [Value.ownBlock] at hk; omega)
    go_wp2
    go_ret
    exact ⟨_, rfl, hown1, hb1⟩

theorem trim_row {w : World} {base n : Nat} {v : Value} {e : TypeId} {o : List Nat} (h : w.ownsRow base e 1 v n (U .u64 o)) (hl : Lim BB o) : ∃ A c, v = .slice A n c ∧ RdN .u64 w A n c o ∧ RdN .u64 w A (limbs BB (val BB o)).length c (limbs BB (val BB o)) := by
  obtain ⟨A, c, rfl⟩ := own_slice h
  have hrd := RdN.of_own h
  refine ⟨A, c, rfl, hrd, ?_⟩
  have h2 := hrd.take (trimL_len o |> fun h' => by rw [own_len h] at h'; exact h')
  rw [← trimL_take, trimL_limbs BB_gt1 hl] at h2
  exact h2

set_option maxRecDepth 100000 in
set_option maxHeartbeats 1000000 in
theorem norm_any (A : Option Addr) (n c : Nat) (xs : List Nat) (w : World) (h : RdN .u64 w A n c xs) (hl : Lim BB xs) (hn : n ≤ 1000000) :
    Calls Tryd.prog 86 #[.slice A n c] w fun e w' => ∃ v, e = .returned v ∧ R64 w' v (val BB xs) ∧ Below w.heap.size w w' := by
  have hlen := h.len
  have h2 : RdN .u64 w A (trimL xs).length c (trimL xs) := by
    have h2 := h.take (m := (trimL xs).length) (by have := trimL_len xs; omega)
    rwa [← trimL_take] at h2
  have h3 := trimL_len xs
  go_enter Tryd.func86, Tryd.ntmps86
  go_wp2_with (go_at_call 111; refine (trim_any _ _ _ _ _ h).mono ?_; rintro e w' ⟨rfl, rfl⟩)
  refine (clone_any A (trimL xs).length c (trimL xs) _ h2 (by omega)).mono ?_
  rintro x w1 ⟨v, rfl, hown, hb⟩
  go_wp2
  go_ret
  obtain ⟨A', c', rfl⟩ := own_slice hown
  refine ⟨_, rfl, ⟨_, _, _, rfl, ?_⟩, hb⟩
  rw [← trimL_limbs BB_gt1 hl]
  exact RdN.of_own hown

set_option maxRecDepth 100000 in
set_option maxHeartbeats 2000000 in
theorem minus_any (A : Option Addr) (n c : Nat) (xs : List Nat) (B : Option Addr) (m d : Nat) (ys : List Nat) (w : World) (h : RdN .u64 w A n c xs) (k : RdN .u64 w B m d ys) (hl : Lim BB xs) (kl : Lim BB ys) (hn : n ≤ 100000) (hmn : m ≤ n) (hle : val BB ys ≤ val BB xs) :
    Calls Tryd.prog 115 #[.slice A n c, .slice B m d] w fun e w' => ∃ v, e = .returned v ∧ R64 w' v (val BB xs - val BB ys) ∧ Below w.heap.size w w' := by
  have h' := h
  obtain ⟨klen, kcap, kmax, kat⟩ := k
  have hlen := h.len
  unfold maxLen at kmax
  subst hlen klen
  go_enter Tryd.func115, Tryd.ntmps115
  go_wp2_with fail
  refine (clone_any A xs.length c xs _ h' (by omega)).mono ?_
  rintro x w1 ⟨v, rfl, hown1, hb1⟩
  obtain ⟨A', c', rfl⟩ := own_slice hown1
  go_wp2
  go_loopw [6, 13] (fun q i wr => ∃ (k : Nat) (o : List Nat) (cy : Nat), k ≤ xs.length ∧ i = .int .i64 (k : Int) ∧ q = .int .u64 (cy : Int) ∧ Hid (MinusInv BB xs ys o cy k) ∧
    wr.ownsRow w.heap.size 67 1 (.slice A' xs.length c') xs.length (U .u64 o) ∧ Below w.heap.size w wr) (fun _ i _ => xs.length - (intOf i).toNat)
  case atStart => exact ⟨0, xs, 0, Nat.zero_le _, rfl, rfl, hide (MinusInv.start ys hl), hown1, hb1⟩
  case round =>
    obtain ⟨k, o, cy, hk, rfl, rfl, hinv, hown, hbw⟩ := hrel
    rcases Nat.lt_or_ge k xs.length with hlt | hge
    · obtain ⟨g, rfl, hg⟩ := own_some hown (by omega)
      have hA := own_cell hown k hlt
      have fA := hown.frozenAt k
      have hcy : cy ≤ 1 := hinv.out.car
      rcases Nat.lt_or_ge k ys.length with hy | hy
      · obtain ⟨b, off, rfl, hb, hc⟩ := kat (by omega)
        have hcell := RdN.cellW hc hb hbw k hy
        have hs := sub64 (nth o k) (nth ys k) cy hcy
        clear kat hc hcy
        go_wp2
        go_roundw
        case rel => exact ⟨k + 1, _, _, by omega, by go_num, rfl, hide (hinv.out.step BB_gt1 kl hlt), own_set hown k _, hbw.setCell hg _⟩
        case measure => simp [intOf]; omega
      · have hs := sub64 (nth o k) 0 cy hcy
        have hz : ys.getD k 0 = 0 := by simp [List.getD_eq_getElem?_getD, List.getElem?_eq_none hy]
        obtain ⟨r, hr⟩ : ∃ r, r = (nth o k + BB - 0 - cy) % BB := ⟨_, rfl⟩
        obtain ⟨q, hq⟩ : ∃ q : Nat, q = (if nth o k < 0 + cy then 1 else 0) := ⟨_, rfl⟩
        rw [← hr, ← hq, Int.natCast_zero] at hs
        have h3 := hinv.out.step BB_gt1 kl hlt
        rw [hz] at h3
        have e1 : (o.getD k 0 + BB - 0 - cy) % BB = r := hr.symm
        have e2 : (if o.getD k 0 < 0 + cy then 1 else 0) = q := hq.symm
        rw [e1, e2] at h3
        have H3 := hide h3
        clear kat hcy hr hq hz h3 e1 e2
        go_wp2
        go_roundw
        case rel => exact ⟨k + 1, _, q, by omega, by go_num, rfl, H3, own_set hown k r, hbw.setCell hg _⟩
        case measure => simp [intOf]; omega
    · obtain rfl : k = xs.length := by omega
      have hi := hinv.out
      have hv := hide (hi.last hmn hle)
      have hlo := hi.lim
      obtain ⟨A2, c2, e2, hrd, hr2⟩ := trim_row hown hlo
      injection e2 with e21 e22 e23
      subst e21 e23
      clear hi hinv
      go_wp2_with (go_at_call 111; refine (trim_any _ _ _ _ _ hrd).mono ?_; rintro e w' ⟨rfl, rfl⟩)
      go_ret
      have et := trimL_limbs BB_gt1 hlo
      rw [hv.out] at hr2 et
      refine ⟨.slice A' (trimL o).length c', rfl, ⟨_, _, _, rfl, ?_⟩, hbw⟩
      rw [et]
      exact hr2
end Go.Proofs.YtbpfnooloemieaaDoor
namespace Go.Proofs.YtbpfnooloemieaaDoor
open Go.RowKit Pl

set_option maxRecDepth 100000 in
set_option maxHeartbeats 2000000 in
theorem plus_any (A : Option Addr) (n c : Nat) (xs : List Nat) (B : Option Addr) (m d : Nat) (ys : List Nat) (w : World) (h : RdN .u64 w A n c xs) (k : RdN .u64 w B m d ys) (hl : Lim BB xs) (kl : Lim BB ys) (hn : n ≤ 100000) (hm : m ≤ 100000) :
    Calls Tryd.prog 114 #[.slice A n c, .slice B m d] w fun e w' => ∃ v, e = .returned v ∧ R64 w' v (val BB xs + val BB ys) ∧ Below w.heap.size w w' := by
  have hlen := h.len
  have klen := k.len
  obtain ⟨i0, hi, hz0, hz1, hz2⟩ := info_parts info_u64
  have H := hide h
  have K := hide k
  clear h k
  go_enter Tryd.func114, Tryd.ntmps114
  go_wp2_with fail
  go_step3
  go_upto_if 13 with fail
  go_cut [0, 1] (fun s0 s1 wx => ∃ (A' : Option Addr) (n' c' : Nat) (xs' : List Nat) (B' : Option Addr) (m' d' : Nat) (ys' : List Nat), s0 = .slice A' n' c' ∧ s1 = .slice B' m' d' ∧ RdN .u64 w A' n' c' xs' ∧ RdN .u64 w B' m' d' ys' ∧ Lim BB xs' ∧ Lim BB ys' ∧ n' ≤ 100000 ∧ m' ≤ n' ∧ val BB xs' + val BB ys' = val BB xs + val BB ys ∧ wx = w)
  case first =>
    by_cases hlt : n < m
    · have e1 : decide (n < m) = true := by simpa using hlt
      go_wp2
      go_meet
      exact ⟨B, m, d, ys, A, n, c, xs, rfl, rfl, K.out, H.out, kl, hl, hm, by omega, Nat.add_comm _ _, rfl⟩
    · have e1 : decide (n < m) = false := by simpa using hlt
      go_wp2
      go_meet
      exact ⟨A, n, c, xs, B, m, d, ys, rfl, rfl, H.out, K.out, hl, kl, hn, by omega, rfl, rfl⟩
  clear H K hlen klen hl kl hn hm
  obtain ⟨A, n, c, us, B, m, d, bs, rfl, rfl, h, k, hl, kl, hn, hmn, hsum, rfl⟩ := hcut
  have HS := hide hsum
  clear hsum
  have h' := h
  have hlen := h.len
  obtain ⟨klen, kcap, kmax, kat⟩ := k
  unfold maxLen at kmax
  subst hlen klen
  go_wp2_with fail
  refine (clone_any A us.length c us _ h' (by omega)).mono ?_
  rintro x w1 ⟨v, rfl, hown1, hb1⟩
  go_wp2_with (at_builtin; go_loud (refine wpList_append_own _ rfl _ _ 33 rfl wc.heap.size 67 i0 (.int .u64 0) 1 8 Tryd.underlying33 hi hz0 hz1 hz2 rfl (by decide) _ _ _ rfl (hown1.alloc _) ⟨w1.heap.size, 0, none⟩ 1 1 [.int .u64 0] rfl rfl new_one (one_int _ _) (by unfold maxLen; omega) (by omega) (base_app hb1) ?_))
  intro v' w2 hown2 hg2 _
  have hb2 := below_app hb1 hown1 hg2
  rw [U_snoc _ _ _ 0 rfl] at hown2
  obtain ⟨A', c', rfl⟩ := own_slice hown2
  obtain ⟨g, rfl, hg⟩ := own_some hown2 (by omega)
  clear hown1 hg2 hb1 h h'
  go_wp2_with fail
  go_step3
  go_wp2_with fail
  go_loopw [6, 22] (fun q i wr => ∃ (k : Nat) (o : List Nat) (cy : Nat), k ≤ us.length + 1 ∧ i = .int .i64 (k : Int) ∧ q = .int .u64 (cy : Int) ∧ Hid (PlusInv BB (us ++ [0]) bs o cy k) ∧
    wr.ownsRow wc.heap.size 67 1 (.slice (some ⟨g, 0, none⟩) (us.length + 1) c') (us.length + 1) (U .u64 o) ∧ Below wc.heap.size wc wr) (fun _ i _ => us.length + 1 - (intOf i).toNat)
  case atStart => exact ⟨0, us ++ [0], 0, Nat.zero_le _, rfl, rfl, hide (PlusInv.start bs (hl.append (Lim.cons BB_pos Lim.nil))), hown2, hb2⟩
  case round =>
    obtain ⟨k, o, cy, hk, rfl, rfl, hinv, hown, hbw⟩ := hrel
    have fin : ∀ (V : Nat), V = val BB o → Lim BB o → Hid (V = val BB us + val BB bs) → Hid (∃ A2 c2, (Value.slice (some ⟨g, 0, none⟩) (trimL o).length c' = .slice A2 (limbs BB (val BB xs + val BB ys)).length c2) ∧ RdN .u64 wr A2 (limbs BB (val BB xs + val BB ys)).length c2 (limbs BB (val BB xs + val BB ys))) := by
      intro V hV hlo hS
      obtain ⟨A2, c2, e2, hrd, hr2⟩ := trim_row hown hlo
      injection e2 with e21 e22 e23
      subst e21 e23
      have e : val BB o = val BB xs + val BB ys := by rw [← HS.out, ← hS.out, hV]
      rw [e] at hr2
      refine ⟨_, _, ?_, hr2⟩
      rw [trimL_limbs BB_gt1 hlo, e]
    have hrd := RdN.of_own hown
    rcases Nat.lt_or_ge k (us.length + 1) with hlt | hge
    · have hA := own_cell hown k hlt
      have fA := hown.frozenAt k
      have hcy : cy ≤ 1 := hinv.out.car
      rcases Nat.lt_or_ge k bs.length with hy | hy
      · obtain ⟨b, off, rfl, hb, hc⟩ := kat (by omega)
        have hcell := RdN.cellW hc hb hbw k hy
        have hs := add64 (nth o k) (nth bs k) cy hcy
        clear kat hc hcy fin hrd
        go_wp2
        go_roundw
        case rel => exact ⟨k + 1, _, _, by omega, by go_num, rfl, hide (hinv.out.step BB_gt1 kl (by simpa using hlt)), own_set hown k _, hbw.setCell hg _⟩
        case measure => simp [intOf]; omega
      · by_cases hc0 : cy = 0
        · subst hc0
          have hv := hinv.out.early hy
          have hF := fin _ rfl hinv.out.lim (by unfold Hid; rw [hv, val_append]; simp)
          clear kat hcy fin hv hinv
          go_wp2_with (go_at_call 111; refine (trim_any _ _ _ _ _ hrd).mono ?_; rintro e w' ⟨rfl, rfl⟩)
          rw [Exit.noGoto_ret]
          go_ret
          obtain ⟨A2, c2, e2, hr2⟩ := hF.out
          exact ⟨_, rfl, ⟨A2, _, c2, e2, hr2⟩, hbw⟩
        · have ec : ((cy : Int) == 0) = false := beq_eq_false_iff_ne.2 (by omega)
          have hs := add64 (nth o k) 0 cy hcy
          have hz : bs.getD k 0 = 0 := by simp [List.getD_eq_getElem?_getD, List.getElem?_eq_none hy]
          obtain ⟨r, hr⟩ : ∃ r, r = (nth o k + 0 + cy) % BB := ⟨_, rfl⟩
          obtain ⟨q, hq⟩ : ∃ q : Nat, q = (nth o k + 0 + cy) / BB := ⟨_, rfl⟩
          rw [← hr, ← hq, Int.natCast_zero] at hs
          have h3 := hinv.out.step BB_gt1 kl (by simpa using hlt)
          rw [hz] at h3
          have e1 : (o.getD k 0 + 0 + cy) % BB = r := hr.symm
          have e2 : (o.getD k 0 + 0 + cy) / BB = q := hq.symm
          rw [e1, e2] at h3
          have H3 := hide h3
          clear kat hcy hr hq hz h3 e1 e2 hc0 fin hrd
          go_wp2
          go_roundw
          case rel => exact ⟨k + 1, _, q, by omega, by go_num, rfl, H3, own_set hown k r, hbw.setCell hg _⟩
          case measure => simp [intOf]; omega
    · obtain rfl : k = us.length + 1 := by omega
      have hv := hinv.out.last BB_gt1 hl kl hmn
      have hF := fin _ rfl hinv.out.lim hv
      clear kat fin hv hinv
      go_wp2_with (go_at_call 111; refine (trim_any _ _ _ _ _ hrd).mono ?_; rintro e w' ⟨rfl, rfl⟩)
      rw [Exit.noGoto_ret]
      go_ret
      obtain ⟨A2, c2, e2, hr2⟩ := hF.out
      exact ⟨_, rfl, ⟨A2, _, c2, e2, hr2⟩, hbw⟩

set_option maxRecDepth 100000 in
set_option maxHeartbeats 2000000 in
theorem times_any (A : Option Addr) (n c : Nat) (xs : List Nat) (B : Option Addr) (m d : Nat) (ys : List Nat) (w : World) (h : RdN .u64 w A n c xs) (k : RdN .u64 w B m d ys) (hl : Lim BB xs) (kl : Lim BB ys) (hn : n ≤ 100000) (hm : m ≤ 100000) :
    Calls Tryd.prog 94 #[.slice A n c, .slice B m d] w fun e w' => ∃ v, e = .returned v ∧ R64 w' v (val BB xs * val BB ys) ∧ Below w.heap.size w w' := by
  obtain ⟨hlen, hcap, hmax, hat⟩ := h
  obtain ⟨klen, kcap, kmax, kat⟩ := k
  unfold maxLen at hmax kmax
  subst hlen klen
  obtain ⟨i0, hi, hz0, hz1, hz2⟩ := info_parts info_u64
  go_enter Tryd.func94, Tryd.ntmps94
  go_wp2_with (at_make; refine wpList_make_full _ rfl _ _ 33 rfl w.heap.size 67 i0 _ 1 Tryd.underlying33 hi hz0 hz1 .i64 .i64 _ _ (xs.length + ys.length) rfl rfl ?c1 ?c2 ?c3 ?c4 ?c5 ?_)
  case c1 => omega
  case c2 => omega
  case c3 => rw [hz2]; omega
  case c4 => unfold maxLen; omega
  case c5 => exact Nat.le_refl _
  intro w1 hown1 hg1
  rw [made_u64] at hown1
  have hb1 : Below w.heap.size w w1 := (Below.refl _ _).grown hg1 (Nat.le_refl _) (by simp)
  go_wp2
  go_loopw [22] (fun i wr => ∃ (k : Nat) (o : List Nat), k ≤ xs.length ∧ i = .int .i64 (k : Int) ∧ Hid (TimesInv BB xs ys o k) ∧
    wr.ownsRow w.heap.size 67 1 (.slice (some ⟨w.heap.size, 0, none⟩) (xs.length + ys.length) (xs.length + ys.length)) (xs.length + ys.length) (U .u64 o) ∧ Below w.heap.size w wr) (fun i _ => xs.length - (intOf i).toNat)
  case atStart => exact ⟨0, _, Nat.zero_le _, rfl, hide (TimesInv.start BB_gt1 xs ys), hown1, hb1⟩
  case round =>
    obtain ⟨k, o, hk, rfl, hinv, hown, hbw⟩ := hrel
    rcases Nat.lt_or_ge k xs.length with hlt | hge
    · obtain ⟨b, off, rfl, hb, hc⟩ := hat (by omega)
      have hcell := RdN.cellW hc hb hbw k hlt
      obtain ⟨x, hx⟩ : ∃ x, x = nth xs k := ⟨_, rfl⟩
      have hxl : x < BB := by rw [hx]; exact hl.getD BB_pos k
      have HX := hide hx
      rw [← hx] at hcell
      clear hx hc hat
      go_wp2
      obtain ⟨wo, rfl⟩ : ∃ wo : World, wo = wr := ⟨_, rfl⟩
      go_loopw [8, 29] (fun y j wr => ∃ (i q : Nat) (p : List Nat), i ≤ ys.length ∧ j = .int .i64 (i : Int) ∧ y = .int .u64 (q : Int) ∧ Hid (TimesIn BB ys o p x k q i) ∧
        wr.ownsRow w.heap.size 67 1 (.slice (some ⟨w.heap.size, 0, none⟩) (xs.length + ys.length) (xs.length + ys.length)) (xs.length + ys.length) (U .u64 p) ∧ Below w.heap.size w wr) (fun _ j _ => ys.length - (intOf j).toNat)
      case atStart => exact ⟨0, 0, o, Nat.zero_le _, rfl, rfl, hide (hinv.out.inner BB_gt1 x), hown, hbw⟩
      case round =>
        obtain ⟨i, q, p, hi1, rfl, rfl, hin, hown, hbw⟩ := hrel
        rcases Nat.lt_or_ge i ys.length with hil | hig
        · obtain ⟨b2, off2, rfl, hb2, hc2⟩ := kat (by omega)
          have hcell2 := RdN.cellW hc2 hb2 hbw i hil
          have hA := own_cell hown (k + i) (by omega)
          have fA := hown.frozenAt (k + i)
          obtain ⟨y, hy⟩ : ∃ y, y = nth ys i := ⟨_, rfl⟩
          have hyl : y < BB := by rw [hy]; exact kl.getD BB_pos i
          obtain ⟨z, hz⟩ : ∃ z, z = nth p (k + i) := ⟨_, rfl⟩
          have hzl : z < BB := by rw [hz]; exact hin.out.lim.getD BB_pos (k + i)
          have hq : q < BB := hin.out.car
          rw [← hy] at hcell2
          rw [← hz] at hA
          have hlt2 := muladd_lt BB_gt1 hxl hyl hq hzl
          obtain ⟨h1, hh1⟩ : ∃ h1, h1 = x * y / BB := ⟨_, rfl⟩
          obtain ⟨l1, hl1⟩ : ∃ l1, l1 = x * y % BB := ⟨_, rfl⟩
          obtain ⟨l2, hl2⟩ : ∃ l2, l2 = (l1 + q + 0) % BB := ⟨_, rfl⟩
          obtain ⟨c1, hc1⟩ : ∃ c1, c1 = (l1 + q + 0) / BB := ⟨_, rfl⟩
          obtain ⟨l3, hl3⟩ : ∃ l3, l3 = (z + l2 + 0) % BB := ⟨_, rfl⟩
          obtain ⟨c2, hc2'⟩ : ∃ c2, c2 = (z + l2 + 0) / BB := ⟨_, rfl⟩
          have e1 : h1 + c1 = (x * y + q) / BB := by rw [hh1, hc1, hl1, Nat.add_zero, muladd_div _ _ BB_pos]
          have e2 : l2 = (x * y + q) % BB := by rw [hl2, hl1, Nat.add_zero, muladd_mod]
          have e3 : l3 = (z + (x * y + q)) % BB := by rw [hl3, e2, Nat.add_zero, Nat.add_mod_mod]
          have e4 : h1 + c1 + c2 = (z + (x * y + q)) / BB := by
            rw [e1, hc2', e2, Nat.add_zero, Nat.add_comm z, muladd_div _ _ BB_pos, Nat.add_comm z]
          have e5 : h1 + c1 + c2 < BB := by rw [e4]; exact (Nat.div_lt_iff_lt_mul BB_pos).2 hlt2
          have hst := hin.out.step BB_gt1 hxl kl hil (by rw [hinv.out.len]; omega)
          have f1 : p.getD (k + i) 0 = z := hz.symm
          have f2 : ys.getD i 0 = y := hy.symm
          rw [f1, f2, ← e3, ← e4] at hst
          have HST := hide hst
          have hM := fun w => mul64_any x y hxl hyl w
          rw [← hh1, ← hl1] at hM
          have hs1 := add64 l1 q 0 (by omega)
          rw [← hl2, ← hc1, Int.natCast_zero] at hs1
          have hs2 := add64 z l2 0 (by omega)
          rw [← hl3, ← hc2', Int.natCast_zero] at hs2
          have HM := hide hM
          unfold BB at e5
          clear hM hst f1 f2 e1 e2 e3 e4 hlt2 hc2' hl3 hc1 hl2 hl1 hh1 hq hzl hz hyl hy kat hc2
          go_wp2_with (go_at_call 119; refine (HM.out _).mono ?_; rintro e w' ⟨rfl, rfl⟩)
          go_roundw
          case rel => exact ⟨i + 1, h1 + c1 + c2, _, by omega, by go_num, by go_num, HST, own_set hown (k + i) l3, hbw.setCell (Nat.le_refl _) _⟩
          case measure => simp [intOf]; omega
        · obtain rfl : i = ys.length := by omega
          have hA := own_cell hown (k + ys.length) (by omega)
          have fA := hown.frozenAt (k + ys.length)
          have hst := hinv.out.step (by rw [show xs.getD k 0 = x from HX.out.symm]; exact hin.out) hlt
          have HST := hide hst
          clear hst kat
          go_wp2
          go_roundw
          case rel => exact ⟨k + 1, _, by omega, by go_num, HST, own_set hown (k + ys.length) q, hbw.setCell (Nat.le_refl _) _⟩
          case measure => simp [intOf]; omega
    · obtain rfl : k = xs.length := by omega
      have hi2 := hinv.out
      have hv := hide (hi2.last)
      have hlo := hi2.lim
      obtain ⟨A2, c2, e2, hrd, hr2⟩ := trim_row hown hlo
      injection e2 with e21 e22 e23
      subst e21 e23
      have et := trimL_limbs BB_gt1 hlo
      rw [hv.out] at hr2 et
      have ET := hide et
      clear hi2 hinv et
      go_wp2_with (go_at_call 111; refine (trim_any _ _ _ _ _ hrd).mono ?_; rintro e w' ⟨rfl, rfl⟩)
      go_ret
      refine ⟨_, rfl, ⟨_, (trimL o).length, _, rfl, ?_⟩, hbw⟩
      rw [ET.out]
      exact hr2
end Go.Proofs.YtbpfnooloemieaaDoor
