/- Contracts of package nat, part H: quotients by one limb, as the statements' told asks them. -/
import Derived.Test.YtdnknokhcliikaaDoorNatG
namespace Go.Proofs.YtdnknokhcliikaaDoor
open Go.RowKit Pl

/-- Quotient and rest, as they are returned. -/
def Two (w : World) (x : Ending) (X Y : Nat) : Prop := ∃ u v, x = .returned (.tuple #[u, v]) ∧ R64 w u X ∧ R64 w v Y

set_option maxRecDepth 100000 in
set_option maxHeartbeats 1000000 in
theorem quorem_one (A : Option Addr) (n c : Nat) (xs : List Nat) (B : Option Addr) (d : Nat) (b : Nat) (w : World) (h : RdN .u64 w A n c xs) (k : RdN .u64 w B 1 d [b]) (hl : Lim BB xs) (hx : Cnl xs) (hn : n ≤ 100000) (hb0 : 0 < b) (hb : b < BB) :
    Calls Tryd.prog 65 #[.slice A n c, .slice B 1 d] w fun e w' => Two w' e (val BB xs / b) (val BB xs % b) ∧ Below w.heap.size w w' := by
  have hc := cmpL_val BB_gt1 hl (Lim.cons hb Lim.nil) hx (by simp [Cnl]; omega : Cnl [b])
  have hv : val BB [b] = b := by simp [val]
  rw [hv] at hc
  unfold cmpN at hc
  have hlen := h.len
  have hcap := h.cap
  have hmax := h.max
  unfold maxLen at hmax
  obtain ⟨b0, off, rfl, hb1, hcl⟩ := k.at_ (by omega)
  have hcell := hcl 0 (by omega)
  have e0 : nth [b] 0 = b := rfl
  rw [e0, Nat.add_zero] at hcell
  by_cases hlt : val BB xs < b
  · rw [if_pos hlt] at hc
    rw [Nat.div_eq_of_lt hlt, Nat.mod_eq_of_lt hlt]
    have hlim : limbs BB (val BB xs) = xs := limbs_of BB_gt1 hl hx rfl
    go_enter Tryd.func65, Tryd.ntmps65
    go_wp2_with fail
    refine (order_any A n c xs _ 1 d [b] _ h k).mono ?_
    rw [hc]
    rintro e w1 ⟨rfl, hb1⟩
    go_wp2_with fail
    refine (clone_any A n c xs _ (h.below hb1) (by omega)).mono ?_
    rintro e w2 ⟨v, rfl, hown, hb2⟩
    obtain ⟨A', c', rfl⟩ := own_slice hown
    go_wp2
    go_ret2
    refine ⟨⟨_, _, rfl, R64.nil _, ⟨_, _, _, rfl, ?_⟩⟩, below_then hb1 hb2⟩
    rw [hlim]
    exact RdN.of_own hown
  · have hd : decide (cmpL xs [b] < 0) = false := by rw [hc, if_neg hlt]; split <;> rfl
    have hr := cmpL_range xs [b]
    obtain ⟨q, hq⟩ : ∃ q, q = cmpL xs [b] := ⟨_, rfl⟩
    rw [← hq] at hd hr
    have HQ := hide hq
    clear hq hc hv
    go_enter Tryd.func65, Tryd.ntmps65
    go_wp2_with fail
    refine (order_any A n c xs _ 1 d [b] _ h k).mono ?_
    rw [← HQ.out]
    rintro e w1 ⟨rfl, hb1⟩
    have hcell1 := ((bcell hb1).1 b0 off (by assumption)).trans hcell
    clear hcell
    go_wp2_with fail
    refine (short_any A n c xs b _ (h.below hb1) hl (by omega) hb0 hb).mono ?_
    rintro e w2 ⟨u, v, rfl, hu, hv, hb2⟩
    go_wp2
    go_ret2
    exact ⟨⟨_, _, rfl, hu, hv⟩, below_then hb1 hb2⟩

set_option maxRecDepth 100000 in
set_option maxHeartbeats 1000000 in
theorem divF_one (A : Option Addr) (n c : Nat) (xs : List Nat) (B : Option Addr) (d : Nat) (b : Nat) (w : World) (h : RdN .u64 w A n c xs) (k : RdN .u64 w B 1 d [b]) (hl : Lim BB xs) (hm : mayN xs = true) (hb0 : 0 < b) (hb : b < BB) :
    Calls Tryd.prog 37 #[.slice A n c, .slice B 1 d] w fun e w' => (∃ u v, e = .returned (.tuple #[u, v, .int .i64 0]) ∧ R64 w' u (val BB xs / b) ∧ R64 w' v (val BB xs % b)) ∧ Below w.heap.size w w' := by
  have hmb : mayN [b] = true := by
    have : ¬ b = 0 := by omega
    simp [mayN, nth, this]
  have hB := fun w h k => both_any A n c xs B 1 d [b] w h k
  rw [hm, hmb] at hB
  have hlen := h.len
  have h64 := mayN_len hm
  go_enter Tryd.func37, Tryd.ntmps37
  go_wp2_with (go_at_call 61; refine (hB _ h k).mono ?_; rintro e w' ⟨rfl, rfl⟩)
  refine (quorem_one A n c xs B d b _ h k hl (mayN_can hm).1 (by omega) hb0 hb).mono ?_
  rintro e w1 ⟨⟨u, v, rfl, hu, hv⟩, hb1⟩
  go_wp2
  go_ret3
  exact ⟨⟨_, _, rfl, hu, hv⟩, hb1⟩

set_option maxRecDepth 100000 in
set_option maxHeartbeats 1000000 in
theorem divF_nil (A : Option Addr) (n c : Nat) (xs : List Nat) (B : Option Addr) (d : Nat) (w : World) (h : RdN .u64 w A n c xs) (k : RdN .u64 w B 0 d []) (hm : mayN xs = true) :
    Calls Tryd.prog 37 #[.slice A n c, .slice B 0 d] w fun e w' => (∃ u v, e = .returned (.tuple #[u, v, .int .i64 4]) ∧ R64 w' u 0 ∧ R64 w' v 0) ∧ Below w.heap.size w w' := by
  have hB := fun w h k => both_any A n c xs B 0 d [] w h k
  rw [hm, show mayN [] = true from rfl] at hB
  go_enter Tryd.func37, Tryd.ntmps37
  go_wp2_with (go_at_call 61; refine (hB _ h k).mono ?_; rintro e w' ⟨rfl, rfl⟩)
  go_ret3
  exact ⟨⟨_, _, rfl, R64.nil _, R64.nil _⟩, Below.refl _ _⟩
theorem divF_bad (A : Option Addr) (n c : Nat) (xs : List Nat) (B : Option Addr) (m d : Nat) (ys : List Nat) (w : World) (h : RdN .u64 w A n c xs) (k : RdN .u64 w B m d ys) (hm : (mayN xs && mayN ys) = false) :
    Calls Tryd.prog 37 #[.slice A n c, .slice B m d] w fun e w' => (∃ u v, e = .returned (.tuple #[u, v, .int .i64 1]) ∧ R64 w' u 0 ∧ R64 w' v 0) ∧ Below w.heap.size w w' := by
  have hB := fun w h k => both_any A n c xs B m d ys w h k
  rw [hm] at hB
  go_enter Tryd.func37, Tryd.ntmps37
  go_wp2_with (go_at_call 61; refine (hB _ h k).mono ?_; rintro e w' ⟨rfl, rfl⟩)
  go_ret3
  exact ⟨⟨_, _, rfl, R64.nil _, R64.nil _⟩, Below.refl _ _⟩
end Go.Proofs.YtdnknokhcliikaaDoor
