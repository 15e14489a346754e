/-
  DERIVED. GIVEN WITH THE SEED: THE CARDS: each row of YtbpfnooloemieaaGreatDoorRows.lean that lists a variable, with what it lists TIED to the program's text (the seventh form; the later family's looks); each row that meets fmt, with fmt's text TOLD by the authors' own Lean function (tested against real Go, not proved from fmt's source: count such statements apart). THE CARD IS WHAT COUNTS. Prove the row's statement (the work); the ties are given (YtbpfnooloemieaaGreatDoorTie.lean); close each card by the builder's one call (the guide's Derived/Test/ToyasCard.lean, 'card_holds'). Laid BY PROGRAM, IN A SANDBOX (cutbox-door.mjs). By AI agents, Wed Nov 11 2026. No macro, syntax, notation, axiom, sorry.
-/
import Derived.Test.YtbpfnooloemieaaGreatDoorRows
import GoSem.ClaimSeven
namespace Go.Proofs.YtbpfnooloemieaaGreatDoor
namespace Rows

/-- THE TIED CARD OF 'sluicewaylaw11.BoxAsks'. -/
def boxAsksCard : Claim7 := { stood := { row := boxAsksRow, standIns := [], harness := (true, "2f6ffd0180b4b5ce1f420978e489c8b328a77850dae60ab80cd36b425e5c8278"), looks := true }, kinds := [], alts := [], laidByText := true, laidKinds := [.data], laidTests := true, laidLooks := .later }
def BoxAsksCardSaid : Prop := Claim7.holds Tryz.pinned (.plain (OpenSpec.ofChange boxAsksSpec)) boxAsksCard

/-- THE TIED CARD OF 'sluicewaylaw13.TubeParts'. -/
def tubePartsCard : Claim7 := { stood := { row := tubePartsRow, standIns := [], harness := (true, "2f6ffd0180b4b5ce1f420978e489c8b328a77850dae60ab80cd36b425e5c8278"), looks := true }, kinds := [], alts := [], laidByText := true, laidKinds := [.data], laidTests := true, laidLooks := .later }
def TubePartsCardSaid : Prop := Claim7.holds Tryz.pinned (.plain (OpenSpec.ofChange tubePartsSpec)) tubePartsCard

/-- THE SECOND FORM's CARD OF 'sluicewaylaw11.BoxAsks'. -/
def boxAsksUptoCard : Claim7 := { stood := { row := boxAsksUptoRow, standIns := [], harness := (true, "2f6ffd0180b4b5ce1f420978e489c8b328a77850dae60ab80cd36b425e5c8278"), looks := true }, kinds := [], alts := [], laidByText := true, laidKinds := [.data], laidTests := true, laidLooks := .later }
def BoxAsksUptoCardSaid : Prop := Claim7.holds Tryz.pinned (.plain (OpenSpec.upto boxAsksSpec)) boxAsksUptoCard

/-- THE SECOND FORM's CARD OF 'sluicewaylaw13.TubeParts'. -/
def tubePartsUptoCard : Claim7 := { stood := { row := tubePartsUptoRow, standIns := [], harness := (true, "2f6ffd0180b4b5ce1f420978e489c8b328a77850dae60ab80cd36b425e5c8278"), looks := true }, kinds := [], alts := [], laidByText := true, laidKinds := [.data], laidTests := true, laidLooks := .later }
def TubePartsUptoCardSaid : Prop := Claim7.holds Tryz.pinned (.plain (OpenSpec.upto tubePartsSpec)) tubePartsUptoCard
end Rows
end Go.Proofs.YtbpfnooloemieaaGreatDoor
