/- Contracts of package nat, part G: the faces. Contracts of package nat, part H: quotients by one limb, as the statements' told asks them. -/
import Derived.Test.YteodljieiloebaaDoorNatFx
import Derived.Test.YteodljieiloebaaDoorInnx
namespace Go.Proofs.YteodljieiloebaaDoor
open Go.RowKit Pl

section
variable (A : Option Addr) (n c : Nat) (xs : List Nat) (B : Option Addr) (m d : Nat) (ys : List Nat) (w : World) (h : RdN .u64 w A n c xs) (k : RdN .u64 w B m d ys) (hl : Lim BB xs) (kl : Lim BB ys)

end
end Go.Proofs.YteodljieiloebaaDoor
namespace Go.Proofs.YteodljieiloebaaDoor
open Go.RowKit Pl

/-- Quotient and rest, as they are returned. -/
def Two (w : World) (x : Ending) (X Y : Nat) : Prop := ∃ u v, x = .returned (.tuple #[u, v]) ∧ R64 w u X ∧ R64 w v Y

set_option maxRecDepth 100000 in
set_option maxHeartbeats 1000000 in
theorem quorem_one (A : Option Addr) (n c : Nat) (xs : List Nat) (B : Option Addr) (d : Nat) (b : Nat) (w : World) (h : RdN .u64 w A n c xs) (k : RdN .u64 w B 1 d [b]) (hl : Lim BB xs) (hx : Cnl xs) (hn : n ≤ 100000) (hb0 : 0 < b) (hb : b < BB) :
    Calls Tryd.prog 66 #[.slice A n c, .slice B 1 d] w fun e w' => Two w' e (val BB xs / b) (val BB xs % b) ∧ Below w.heap.size w w' := by
  have hc := cmpL_val BB_gt1 hl (Lim.cons hb Lim.nil) hx (by simp [Cnl]; omega : Cnl [b])
  have hv : val BB [b] = b := by simp [val]
  rw [hv] at hc
  unfold cmpN at hc
  have hlen := h.len
  have hcap := h.cap
  have hmax := h.max
  unfold maxLen at hmax
  obtain ⟨b0, off, rfl, hb1, hcl⟩ := k.at_ (by omega)
  have hcell := hcl 0 (by omega)
  have e0 : nth [b] 0 = b := rfl
  rw [e0, Nat.add_zero] at hcell
  by_cases hlt : val BB xs < b
  · rw [if_pos hlt] at hc
    rw [Nat.div_eq_of_lt hlt, Nat.mod_eq_of_lt hlt]
    have hlim : limbs BB (val BB xs) = xs := limbs_of BB_gt1 hl hx rfl
    go_enter Tryd.func66, Tryd.ntmps66
    go_wp2_with fail
    refine (order_any A n c xs _ 1 d [b] _ h k).mono ?_
    rw [hc]
    rintro e w1 ⟨rfl, hb1⟩
    go_wp2_with fail
    refine (clone_any A n c xs _ (h.below hb1) (by omega)).mono ?_
    rintro e w2 ⟨v, rfl, hown, hb2⟩
    obtain ⟨A', c', rfl⟩ := own_slice hown
    go_wp2
    go_ret2
    refine ⟨⟨_, _, rfl, R64.nil _, ⟨_, _, _, rfl, ?_⟩⟩, below_then hb1 hb2⟩
    rw [hlim]
    exact RdN.of_own hown
  · have hd : decide (cmpL xs [b] < 0) = false := by rw [hc, if_neg hlt]; split <;> rfl
    have hr := cmpL_range xs [b]
    obtain ⟨q, hq⟩ : ∃ q, q = cmpL xs [b] := ⟨_, rfl⟩
    rw [← hq] at hd hr
    have HQ := hide hq
    clear hq hc hv
    go_enter Tryd.func66, Tryd.ntmps66
    go_wp2_with fail
    refine (order_any A n c xs _ 1 d [b] _ h k).mono ?_
    rw [← HQ.out]
    rintro e w1 ⟨rfl, hb1⟩
    have hcell1 := ((bcell hb1).1 b0 off (by assumption)).trans hcell
    clear hcell
    go_wp2_with fail
    refine (short_any A n c xs b _ (h.below hb1) hl (by omega) hb0 hb).mono ?_
    rintro e w2 ⟨u, v, rfl, hu, hv, hb2⟩
    go_wp2
    go_ret2
    exact ⟨⟨_, _, rfl, hu, hv⟩, below_then hb1 hb2⟩

end Go.Proofs.YteodljieiloebaaDoor
