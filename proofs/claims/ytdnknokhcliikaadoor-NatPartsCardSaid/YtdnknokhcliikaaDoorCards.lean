/-
  DERIVED. GIVEN WITH THE SEED: THE CARDS: each row of YtdnknokhcliikaaDoorRows.lean that lists a variable, with what it lists TIED to the program's text (the seventh form; the later family's looks); each row that meets fmt, with fmt's text TOLD by the authors' own Lean function (tested against real Go, not proved from fmt's source: count such statements apart). THE CARD IS WHAT COUNTS. Prove the row's statement (the work); the ties are given (YtdnknokhcliikaaDoorTie.lean); close each card by the builder's one call (the guide's Derived/Test/ToyasCard.lean, 'card_holds'). Laid BY PROGRAM, IN A SANDBOX (cutbox-door.mjs). By AI agents, Wed Nov 11 2026. No macro, syntax, notation, axiom, sorry.
-/
import Derived.Test.YtdnknokhcliikaaDoorRows
import GoSem.ClaimSeven
namespace Go.Proofs.YtdnknokhcliikaaDoor
namespace Rows

/-- THE TIED CARD OF 'sluicewaylaw22.BoundAsks'. -/
def boundAsksCard : Claim7 := { stood := { row := boundAsksRow, standIns := [], harness := (true, "ebec4cdfc1d6f3de579fd1b5eb0aebe9306680dcbb0b377f789fabd74221c7bc"), looks := true }, kinds := [], alts := [], laidByText := true, laidKinds := [.data], laidTests := true, laidLooks := .later }
def BoundAsksCardSaid : Prop := Claim7.holds Tryd.pinned (.plain (OpenSpec.ofChange boundAsksSpec)) boundAsksCard

/-- THE TIED CARD OF 'sluicewaylaw22.BoundGrows'. -/
def boundGrowsCard : Claim7 := { stood := { row := boundGrowsRow, standIns := [], harness := (true, "ebec4cdfc1d6f3de579fd1b5eb0aebe9306680dcbb0b377f789fabd74221c7bc"), looks := true }, kinds := [], alts := [], laidByText := true, laidKinds := [.data], laidTests := true, laidLooks := .later }
def BoundGrowsCardSaid : Prop := Claim7.holds Tryd.pinned (.plain (OpenSpec.ofChange boundGrowsSpec)) boundGrowsCard

/-- THE TIED CARD OF 'sluicewaylaw22.BoundHalves'. -/
def boundHalvesCard : Claim7 := { stood := { row := boundHalvesRow, standIns := [], harness := (true, "ebec4cdfc1d6f3de579fd1b5eb0aebe9306680dcbb0b377f789fabd74221c7bc"), looks := true }, kinds := [], alts := [], laidByText := true, laidKinds := [.data], laidTests := true, laidLooks := .later }
def BoundHalvesCardSaid : Prop := Claim7.holds Tryd.pinned (.plain (OpenSpec.ofChange boundHalvesSpec)) boundHalvesCard

/-- THE TIED CARD OF 'sluicewaylaw1.NatBits'. -/
def natBitsCard : Claim7 := { stood := { row := natBitsRow, standIns := [], harness := (true, "ebec4cdfc1d6f3de579fd1b5eb0aebe9306680dcbb0b377f789fabd74221c7bc"), looks := true }, kinds := [], alts := [], laidByText := true, laidKinds := [.data], laidTests := true, laidLooks := .later }
def NatBitsCardSaid : Prop := Claim7.holds Tryd.pinned (.plain (OpenSpec.ofChange natBitsSpec)) natBitsCard

/-- THE TIED CARD OF 'sluicewaylaw1.NatCaps'. -/
def natCapsCard : Claim7 := { stood := { row := natCapsRow, standIns := [], harness := (true, "ebec4cdfc1d6f3de579fd1b5eb0aebe9306680dcbb0b377f789fabd74221c7bc"), looks := true }, kinds := [], alts := [], laidByText := true, laidKinds := [.data], laidTests := true, laidLooks := .later }
def NatCapsCardSaid : Prop := Claim7.holds Tryd.pinned (.plain (OpenSpec.ofChange natCapsSpec)) natCapsCard

/-- THE TIED CARD OF 'sluicewaylaw1.NatShifts'. -/
def natShiftsCard : Claim7 := { stood := { row := natShiftsRow, standIns := [], harness := (true, "ebec4cdfc1d6f3de579fd1b5eb0aebe9306680dcbb0b377f789fabd74221c7bc"), looks := true }, kinds := [], alts := [], laidByText := true, laidKinds := [.data], laidTests := true, laidLooks := .later }
def NatShiftsCardSaid : Prop := Claim7.holds Tryd.pinned (.plain (OpenSpec.ofChange natShiftsSpec)) natShiftsCard

/-- THE TIED CARD OF 'sluicewaylaw1.NatParts'. -/
def natPartsCard : Claim7 := { stood := { row := natPartsRow, standIns := [], harness := (true, "ebec4cdfc1d6f3de579fd1b5eb0aebe9306680dcbb0b377f789fabd74221c7bc"), looks := true }, kinds := [], alts := [], laidByText := true, laidKinds := [.data], laidTests := true, laidLooks := .later }
def NatPartsCardSaid : Prop := Claim7.holds Tryd.pinned (.plain (OpenSpec.ofChange natPartsSpec)) natPartsCard

/-- THE TIED CARD OF 'sluicewaylaw1.NatAsks'. -/
def natAsksCard : Claim7 := { stood := { row := natAsksRow, standIns := [], harness := (true, "ebec4cdfc1d6f3de579fd1b5eb0aebe9306680dcbb0b377f789fabd74221c7bc"), looks := true }, kinds := [], alts := [], laidByText := true, laidKinds := [.data], laidTests := true, laidLooks := .later }
def NatAsksCardSaid : Prop := Claim7.holds Tryd.pinned (.plain (OpenSpec.ofChange natAsksSpec)) natAsksCard

/-- THE TIED CARD OF 'sluicewaylaw1.NatRing'. -/
def natRingCard : Claim7 := { stood := { row := natRingRow, standIns := [], harness := (true, "ebec4cdfc1d6f3de579fd1b5eb0aebe9306680dcbb0b377f789fabd74221c7bc"), looks := true }, kinds := [], alts := [], laidByText := true, laidKinds := [.data], laidTests := true, laidLooks := .later }
def NatRingCardSaid : Prop := Claim7.holds Tryd.pinned (.plain (OpenSpec.ofChange natRingSpec)) natRingCard

/-- THE TIED CARD OF 'sluicewaylaw1.NatDivides'. -/
def natDividesCard : Claim7 := { stood := { row := natDividesRow, standIns := [], harness := (true, "ebec4cdfc1d6f3de579fd1b5eb0aebe9306680dcbb0b377f789fabd74221c7bc"), looks := true }, kinds := [], alts := [], laidByText := true, laidKinds := [.data], laidTests := true, laidLooks := .later }
def NatDividesCardSaid : Prop := Claim7.holds Tryd.pinned (.plain (OpenSpec.ofChange natDividesSpec)) natDividesCard

/-- THE SECOND FORM's CARD OF 'sluicewaylaw22.BoundAsks'. -/
def boundAsksUptoCard : Claim7 := { stood := { row := boundAsksUptoRow, standIns := [], harness := (true, "ebec4cdfc1d6f3de579fd1b5eb0aebe9306680dcbb0b377f789fabd74221c7bc"), looks := true }, kinds := [], alts := [], laidByText := true, laidKinds := [.data], laidTests := true, laidLooks := .later }
def BoundAsksUptoCardSaid : Prop := Claim7.holds Tryd.pinned (.plain (OpenSpec.upto boundAsksSpec)) boundAsksUptoCard

/-- THE SECOND FORM's CARD OF 'sluicewaylaw22.BoundGrows'. -/
def boundGrowsUptoCard : Claim7 := { stood := { row := boundGrowsUptoRow, standIns := [], harness := (true, "ebec4cdfc1d6f3de579fd1b5eb0aebe9306680dcbb0b377f789fabd74221c7bc"), looks := true }, kinds := [], alts := [], laidByText := true, laidKinds := [.data], laidTests := true, laidLooks := .later }
def BoundGrowsUptoCardSaid : Prop := Claim7.holds Tryd.pinned (.plain (OpenSpec.upto boundGrowsSpec)) boundGrowsUptoCard

/-- THE SECOND FORM's CARD OF 'sluicewaylaw22.BoundHalves'. -/
def boundHalvesUptoCard : Claim7 := { stood := { row := boundHalvesUptoRow, standIns := [], harness := (true, "ebec4cdfc1d6f3de579fd1b5eb0aebe9306680dcbb0b377f789fabd74221c7bc"), looks := true }, kinds := [], alts := [], laidByText := true, laidKinds := [.data], laidTests := true, laidLooks := .later }
def BoundHalvesUptoCardSaid : Prop := Claim7.holds Tryd.pinned (.plain (OpenSpec.upto boundHalvesSpec)) boundHalvesUptoCard

/-- THE SECOND FORM's CARD OF 'sluicewaylaw1.NatBits'. -/
def natBitsUptoCard : Claim7 := { stood := { row := natBitsUptoRow, standIns := [], harness := (true, "ebec4cdfc1d6f3de579fd1b5eb0aebe9306680dcbb0b377f789fabd74221c7bc"), looks := true }, kinds := [], alts := [], laidByText := true, laidKinds := [.data], laidTests := true, laidLooks := .later }
def NatBitsUptoCardSaid : Prop := Claim7.holds Tryd.pinned (.plain (OpenSpec.upto natBitsSpec)) natBitsUptoCard

/-- THE SECOND FORM's CARD OF 'sluicewaylaw1.NatCaps'. -/
def natCapsUptoCard : Claim7 := { stood := { row := natCapsUptoRow, standIns := [], harness := (true, "ebec4cdfc1d6f3de579fd1b5eb0aebe9306680dcbb0b377f789fabd74221c7bc"), looks := true }, kinds := [], alts := [], laidByText := true, laidKinds := [.data], laidTests := true, laidLooks := .later }
def NatCapsUptoCardSaid : Prop := Claim7.holds Tryd.pinned (.plain (OpenSpec.upto natCapsSpec)) natCapsUptoCard

/-- THE SECOND FORM's CARD OF 'sluicewaylaw1.NatShifts'. -/
def natShiftsUptoCard : Claim7 := { stood := { row := natShiftsUptoRow, standIns := [], harness := (true, "ebec4cdfc1d6f3de579fd1b5eb0aebe9306680dcbb0b377f789fabd74221c7bc"), looks := true }, kinds := [], alts := [], laidByText := true, laidKinds := [.data], laidTests := true, laidLooks := .later }
def NatShiftsUptoCardSaid : Prop := Claim7.holds Tryd.pinned (.plain (OpenSpec.upto natShiftsSpec)) natShiftsUptoCard

/-- THE SECOND FORM's CARD OF 'sluicewaylaw1.NatParts'. -/
def natPartsUptoCard : Claim7 := { stood := { row := natPartsUptoRow, standIns := [], harness := (true, "ebec4cdfc1d6f3de579fd1b5eb0aebe9306680dcbb0b377f789fabd74221c7bc"), looks := true }, kinds := [], alts := [], laidByText := true, laidKinds := [.data], laidTests := true, laidLooks := .later }
def NatPartsUptoCardSaid : Prop := Claim7.holds Tryd.pinned (.plain (OpenSpec.upto natPartsSpec)) natPartsUptoCard

/-- THE SECOND FORM's CARD OF 'sluicewaylaw1.NatAsks'. -/
def natAsksUptoCard : Claim7 := { stood := { row := natAsksUptoRow, standIns := [], harness := (true, "ebec4cdfc1d6f3de579fd1b5eb0aebe9306680dcbb0b377f789fabd74221c7bc"), looks := true }, kinds := [], alts := [], laidByText := true, laidKinds := [.data], laidTests := true, laidLooks := .later }
def NatAsksUptoCardSaid : Prop := Claim7.holds Tryd.pinned (.plain (OpenSpec.upto natAsksSpec)) natAsksUptoCard

/-- THE SECOND FORM's CARD OF 'sluicewaylaw1.NatRing'. -/
def natRingUptoCard : Claim7 := { stood := { row := natRingUptoRow, standIns := [], harness := (true, "ebec4cdfc1d6f3de579fd1b5eb0aebe9306680dcbb0b377f789fabd74221c7bc"), looks := true }, kinds := [], alts := [], laidByText := true, laidKinds := [.data], laidTests := true, laidLooks := .later }
def NatRingUptoCardSaid : Prop := Claim7.holds Tryd.pinned (.plain (OpenSpec.upto natRingSpec)) natRingUptoCard

/-- THE SECOND FORM's CARD OF 'sluicewaylaw1.NatDivides'. -/
def natDividesUptoCard : Claim7 := { stood := { row := natDividesUptoRow, standIns := [], harness := (true, "ebec4cdfc1d6f3de579fd1b5eb0aebe9306680dcbb0b377f789fabd74221c7bc"), looks := true }, kinds := [], alts := [], laidByText := true, laidKinds := [.data], laidTests := true, laidLooks := .later }
def NatDividesUptoCardSaid : Prop := Claim7.holds Tryd.pinned (.plain (OpenSpec.upto natDividesSpec)) natDividesUptoCard
end Rows
end Go.Proofs.YtdnknokhcliikaaDoor
