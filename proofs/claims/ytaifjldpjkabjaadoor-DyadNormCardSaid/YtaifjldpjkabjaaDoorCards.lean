/-
  DERIVED. GIVEN WITH THE SEED: THE CARDS: each row of YtaifjldpjkabjaaDoorRows.lean that lists a variable, with what it lists TIED to the program's text (the seventh form; the later family's looks); each row that meets fmt, with fmt's text TOLD by the authors' own Lean function (tested against real Go, not proved from fmt's source: count such statements apart). THE CARD IS WHAT COUNTS. Prove the row's statement (the work); the ties are given (YtaifjldpjkabjaaDoorTie.lean); close each card by the builder's one call (the guide's Derived/Test/ToyasCard.lean, 'card_holds'). Laid BY PROGRAM, IN A SANDBOX (cutbox-door.mjs). By AI agents, Wed Nov 11 2026. No macro, syntax, notation, axiom, sorry.
-/
import Derived.Test.YtaifjldpjkabjaaDoorRows
import GoSem.ClaimSeven
namespace Go.Proofs.YtaifjldpjkabjaaDoor
namespace Rows

/-- THE TIED CARD OF 'sluicewaylaw2.DyadNorm'. -/
def dyadNormCard : Claim7 := { stood := { row := dyadNormRow, standIns := [], harness := (true, "68840b9830f6b52be7a97e1e8805cc648cc6a3c1eeec645fb1dc559ade33604f"), looks := true }, kinds := [], alts := [], laidByText := true, laidKinds := [.data], laidTests := true, laidLooks := .later }
def DyadNormCardSaid : Prop := Claim7.holds Tryd.pinned (.plain (OpenSpec.ofChange dyadNormSpec)) dyadNormCard

/-- THE TIED CARD OF 'sluicewaylaw2.DyadAsks'. -/
def dyadAsksCard : Claim7 := { stood := { row := dyadAsksRow, standIns := [], harness := (true, "68840b9830f6b52be7a97e1e8805cc648cc6a3c1eeec645fb1dc559ade33604f"), looks := true }, kinds := [], alts := [], laidByText := true, laidKinds := [.data], laidTests := true, laidLooks := .later }
def DyadAsksCardSaid : Prop := Claim7.holds Tryd.pinned (.plain (OpenSpec.ofChange dyadAsksSpec)) dyadAsksCard

/-- THE TIED CARD OF 'sluicewaylaw2.DyadRing'. -/
def dyadRingCard : Claim7 := { stood := { row := dyadRingRow, standIns := [], harness := (true, "68840b9830f6b52be7a97e1e8805cc648cc6a3c1eeec645fb1dc559ade33604f"), looks := true }, kinds := [], alts := [], laidByText := true, laidKinds := [.data], laidTests := true, laidLooks := .later }
def DyadRingCardSaid : Prop := Claim7.holds Tryd.pinned (.plain (OpenSpec.ofChange dyadRingSpec)) dyadRingCard

/-- THE TIED CARD OF 'sluicewaylaw2.DyadFar'. -/
def dyadFarCard : Claim7 := { stood := { row := dyadFarRow, standIns := [], harness := (true, "68840b9830f6b52be7a97e1e8805cc648cc6a3c1eeec645fb1dc559ade33604f"), looks := true }, kinds := [], alts := [], laidByText := true, laidKinds := [.data], laidTests := true, laidLooks := .later }
def DyadFarCardSaid : Prop := Claim7.holds Tryd.pinned (.plain (OpenSpec.ofChange dyadFarSpec)) dyadFarCard

/-- THE TIED CARD OF 'sluicewaylaw2.DyadOnes'. -/
def dyadOnesCard : Claim7 := { stood := { row := dyadOnesRow, standIns := [], harness := (true, "68840b9830f6b52be7a97e1e8805cc648cc6a3c1eeec645fb1dc559ade33604f"), looks := true }, kinds := [], alts := [], laidByText := true, laidKinds := [.data], laidTests := true, laidLooks := .later }
def DyadOnesCardSaid : Prop := Claim7.holds Tryd.pinned (.plain (OpenSpec.ofChange dyadOnesSpec)) dyadOnesCard

/-- THE TIED CARD OF 'sluicewaylaw2.DyadOrder'. -/
def dyadOrderCard : Claim7 := { stood := { row := dyadOrderRow, standIns := [], harness := (true, "68840b9830f6b52be7a97e1e8805cc648cc6a3c1eeec645fb1dc559ade33604f"), looks := true }, kinds := [], alts := [], laidByText := true, laidKinds := [.data], laidTests := true, laidLooks := .later }
def DyadOrderCardSaid : Prop := Claim7.holds Tryd.pinned (.plain (OpenSpec.ofChange dyadOrderSpec)) dyadOrderCard

/-- THE TIED CARD OF 'sluicewaylaw5.IvalMany'. -/
def ivalManyCard : Claim7 := { stood := { row := ivalManyRow, standIns := [], harness := (true, "68840b9830f6b52be7a97e1e8805cc648cc6a3c1eeec645fb1dc559ade33604f"), looks := true }, kinds := [], alts := [], laidByText := true, laidKinds := [.data], laidTests := true, laidLooks := .later }
def IvalManyCardSaid : Prop := Claim7.holds Tryd.pinned (.plain (OpenSpec.ofChange ivalManySpec)) ivalManyCard

/-- THE TIED CARD OF 'sluicewaylaw5.IvalAsks'. -/
def ivalAsksCard : Claim7 := { stood := { row := ivalAsksRow, standIns := [], harness := (true, "68840b9830f6b52be7a97e1e8805cc648cc6a3c1eeec645fb1dc559ade33604f"), looks := true }, kinds := [], alts := [], laidByText := true, laidKinds := [.data], laidTests := true, laidLooks := .later }
def IvalAsksCardSaid : Prop := Claim7.holds Tryd.pinned (.plain (OpenSpec.ofChange ivalAsksSpec)) ivalAsksCard

/-- THE TIED CARD OF 'sluicewaylaw5.IvalSets'. -/
def ivalSetsCard : Claim7 := { stood := { row := ivalSetsRow, standIns := [], harness := (true, "68840b9830f6b52be7a97e1e8805cc648cc6a3c1eeec645fb1dc559ade33604f"), looks := true }, kinds := [], alts := [], laidByText := true, laidKinds := [.data], laidTests := true, laidLooks := .later }
def IvalSetsCardSaid : Prop := Claim7.holds Tryd.pinned (.plain (OpenSpec.ofChange ivalSetsSpec)) ivalSetsCard

/-- THE TIED CARD OF 'sluicewaylaw5.IvalRounds'. -/
def ivalRoundsCard : Claim7 := { stood := { row := ivalRoundsRow, standIns := [], harness := (true, "68840b9830f6b52be7a97e1e8805cc648cc6a3c1eeec645fb1dc559ade33604f"), looks := true }, kinds := [], alts := [], laidByText := true, laidKinds := [.data], laidTests := true, laidLooks := .later }
def IvalRoundsCardSaid : Prop := Claim7.holds Tryd.pinned (.plain (OpenSpec.ofChange ivalRoundsSpec)) ivalRoundsCard

/-- THE SECOND FORM's CARD OF 'sluicewaylaw2.DyadNorm'. -/
def dyadNormUptoCard : Claim7 := { stood := { row := dyadNormUptoRow, standIns := [], harness := (true, "68840b9830f6b52be7a97e1e8805cc648cc6a3c1eeec645fb1dc559ade33604f"), looks := true }, kinds := [], alts := [], laidByText := true, laidKinds := [.data], laidTests := true, laidLooks := .later }
def DyadNormUptoCardSaid : Prop := Claim7.holds Tryd.pinned (.plain (OpenSpec.upto dyadNormSpec)) dyadNormUptoCard

/-- THE SECOND FORM's CARD OF 'sluicewaylaw2.DyadAsks'. -/
def dyadAsksUptoCard : Claim7 := { stood := { row := dyadAsksUptoRow, standIns := [], harness := (true, "68840b9830f6b52be7a97e1e8805cc648cc6a3c1eeec645fb1dc559ade33604f"), looks := true }, kinds := [], alts := [], laidByText := true, laidKinds := [.data], laidTests := true, laidLooks := .later }
def DyadAsksUptoCardSaid : Prop := Claim7.holds Tryd.pinned (.plain (OpenSpec.upto dyadAsksSpec)) dyadAsksUptoCard

/-- THE SECOND FORM's CARD OF 'sluicewaylaw2.DyadRing'. -/
def dyadRingUptoCard : Claim7 := { stood := { row := dyadRingUptoRow, standIns := [], harness := (true, "68840b9830f6b52be7a97e1e8805cc648cc6a3c1eeec645fb1dc559ade33604f"), looks := true }, kinds := [], alts := [], laidByText := true, laidKinds := [.data], laidTests := true, laidLooks := .later }
def DyadRingUptoCardSaid : Prop := Claim7.holds Tryd.pinned (.plain (OpenSpec.upto dyadRingSpec)) dyadRingUptoCard

/-- THE SECOND FORM's CARD OF 'sluicewaylaw2.DyadFar'. -/
def dyadFarUptoCard : Claim7 := { stood := { row := dyadFarUptoRow, standIns := [], harness := (true, "68840b9830f6b52be7a97e1e8805cc648cc6a3c1eeec645fb1dc559ade33604f"), looks := true }, kinds := [], alts := [], laidByText := true, laidKinds := [.data], laidTests := true, laidLooks := .later }
def DyadFarUptoCardSaid : Prop := Claim7.holds Tryd.pinned (.plain (OpenSpec.upto dyadFarSpec)) dyadFarUptoCard

/-- THE SECOND FORM's CARD OF 'sluicewaylaw2.DyadOnes'. -/
def dyadOnesUptoCard : Claim7 := { stood := { row := dyadOnesUptoRow, standIns := [], harness := (true, "68840b9830f6b52be7a97e1e8805cc648cc6a3c1eeec645fb1dc559ade33604f"), looks := true }, kinds := [], alts := [], laidByText := true, laidKinds := [.data], laidTests := true, laidLooks := .later }
def DyadOnesUptoCardSaid : Prop := Claim7.holds Tryd.pinned (.plain (OpenSpec.upto dyadOnesSpec)) dyadOnesUptoCard

/-- THE SECOND FORM's CARD OF 'sluicewaylaw2.DyadOrder'. -/
def dyadOrderUptoCard : Claim7 := { stood := { row := dyadOrderUptoRow, standIns := [], harness := (true, "68840b9830f6b52be7a97e1e8805cc648cc6a3c1eeec645fb1dc559ade33604f"), looks := true }, kinds := [], alts := [], laidByText := true, laidKinds := [.data], laidTests := true, laidLooks := .later }
def DyadOrderUptoCardSaid : Prop := Claim7.holds Tryd.pinned (.plain (OpenSpec.upto dyadOrderSpec)) dyadOrderUptoCard

/-- THE SECOND FORM's CARD OF 'sluicewaylaw5.IvalMany'. -/
def ivalManyUptoCard : Claim7 := { stood := { row := ivalManyUptoRow, standIns := [], harness := (true, "68840b9830f6b52be7a97e1e8805cc648cc6a3c1eeec645fb1dc559ade33604f"), looks := true }, kinds := [], alts := [], laidByText := true, laidKinds := [.data], laidTests := true, laidLooks := .later }
def IvalManyUptoCardSaid : Prop := Claim7.holds Tryd.pinned (.plain (OpenSpec.upto ivalManySpec)) ivalManyUptoCard

/-- THE SECOND FORM's CARD OF 'sluicewaylaw5.IvalAsks'. -/
def ivalAsksUptoCard : Claim7 := { stood := { row := ivalAsksUptoRow, standIns := [], harness := (true, "68840b9830f6b52be7a97e1e8805cc648cc6a3c1eeec645fb1dc559ade33604f"), looks := true }, kinds := [], alts := [], laidByText := true, laidKinds := [.data], laidTests := true, laidLooks := .later }
def IvalAsksUptoCardSaid : Prop := Claim7.holds Tryd.pinned (.plain (OpenSpec.upto ivalAsksSpec)) ivalAsksUptoCard

/-- THE SECOND FORM's CARD OF 'sluicewaylaw5.IvalSets'. -/
def ivalSetsUptoCard : Claim7 := { stood := { row := ivalSetsUptoRow, standIns := [], harness := (true, "68840b9830f6b52be7a97e1e8805cc648cc6a3c1eeec645fb1dc559ade33604f"), looks := true }, kinds := [], alts := [], laidByText := true, laidKinds := [.data], laidTests := true, laidLooks := .later }
def IvalSetsUptoCardSaid : Prop := Claim7.holds Tryd.pinned (.plain (OpenSpec.upto ivalSetsSpec)) ivalSetsUptoCard

/-- THE SECOND FORM's CARD OF 'sluicewaylaw5.IvalRounds'. -/
def ivalRoundsUptoCard : Claim7 := { stood := { row := ivalRoundsUptoRow, standIns := [], harness := (true, "68840b9830f6b52be7a97e1e8805cc648cc6a3c1eeec645fb1dc559ade33604f"), looks := true }, kinds := [], alts := [], laidByText := true, laidKinds := [.data], laidTests := true, laidLooks := .later }
def IvalRoundsUptoCardSaid : Prop := Claim7.holds Tryd.pinned (.plain (OpenSpec.upto ivalRoundsSpec)) ivalRoundsUptoCard
end Rows
end Go.Proofs.YtaifjldpjkabjaaDoor
