/-
  DERIVED. GIVEN WITH THE SEED: THE CARDS: each row of YtbpfnooloemieaaDoorRows.lean that lists a variable, with what it lists TIED to the program's text (the seventh form; the later family's looks); each row that meets fmt, with fmt's text TOLD by the authors' own Lean function (tested against real Go, not proved from fmt's source: count such statements apart). THE CARD IS WHAT COUNTS. Prove the row's statement (the work); the ties are given (YtbpfnooloemieaaDoorTie.lean); close each card by the builder's one call (the guide's Derived/Test/ToyasCard.lean, 'card_holds'). Laid BY PROGRAM, IN A SANDBOX (cutbox-door.mjs). By AI agents, Wed Nov 11 2026. No macro, syntax, notation, axiom, sorry.
-/
import Derived.Test.YtbpfnooloemieaaDoorRows
import GoSem.ClaimSeven
namespace Go.Proofs.YtbpfnooloemieaaDoor
namespace Rows

/-- THE TIED CARD OF 'sluicewaylaw11.BoxSets'. -/
def boxSetsCard : Claim7 := { stood := { row := boxSetsRow, standIns := [], harness := (true, "a78ed06b1cb28d2f6ae3b869a6294f4730d771af3884c82f06244d1d0fe446aa"), looks := true }, kinds := [], alts := [], laidByText := true, laidKinds := [.data], laidTests := true, laidLooks := .later }
def BoxSetsCardSaid : Prop := Claim7.holds Tryd.pinned (.plain (OpenSpec.ofChange boxSetsSpec)) boxSetsCard

/-- THE TIED CARD OF 'sluicewaylaw11.BoxRows'. -/
def boxRowsCard : Claim7 := { stood := { row := boxRowsRow, standIns := [], harness := (true, "a78ed06b1cb28d2f6ae3b869a6294f4730d771af3884c82f06244d1d0fe446aa"), looks := true }, kinds := [], alts := [], laidByText := true, laidKinds := [.data], laidTests := true, laidLooks := .later }
def BoxRowsCardSaid : Prop := Claim7.holds Tryd.pinned (.plain (OpenSpec.ofChange boxRowsSpec)) boxRowsCard

/-- THE TIED CARD OF 'sluicewaylaw13.TubeTimes'. -/
def tubeTimesCard : Claim7 := { stood := { row := tubeTimesRow, standIns := [], harness := (true, "a78ed06b1cb28d2f6ae3b869a6294f4730d771af3884c82f06244d1d0fe446aa"), looks := true }, kinds := [], alts := [], laidByText := true, laidKinds := [.data], laidTests := true, laidLooks := .later }
def TubeTimesCardSaid : Prop := Claim7.holds Tryd.pinned (.plain (OpenSpec.ofChange tubeTimesSpec)) tubeTimesCard

/-- THE TIED CARD OF 'sluicewaylaw13.TubeOrder'. -/
def tubeOrderCard : Claim7 := { stood := { row := tubeOrderRow, standIns := [], harness := (true, "a78ed06b1cb28d2f6ae3b869a6294f4730d771af3884c82f06244d1d0fe446aa"), looks := true }, kinds := [], alts := [], laidByText := true, laidKinds := [.data], laidTests := true, laidLooks := .later }
def TubeOrderCardSaid : Prop := Claim7.holds Tryd.pinned (.plain (OpenSpec.ofChange tubeOrderSpec)) tubeOrderCard

/-- THE TIED CARD OF 'sluicewaylaw13.TubeAsks'. -/
def tubeAsksCard : Claim7 := { stood := { row := tubeAsksRow, standIns := [], harness := (true, "a78ed06b1cb28d2f6ae3b869a6294f4730d771af3884c82f06244d1d0fe446aa"), looks := true }, kinds := [], alts := [], laidByText := true, laidKinds := [.data], laidTests := true, laidLooks := .later }
def TubeAsksCardSaid : Prop := Claim7.holds Tryd.pinned (.plain (OpenSpec.ofChange tubeAsksSpec)) tubeAsksCard

/-- THE TIED CARD OF 'sluicewaylaw13.TubeSpans'. -/
def tubeSpansCard : Claim7 := { stood := { row := tubeSpansRow, standIns := [], harness := (true, "a78ed06b1cb28d2f6ae3b869a6294f4730d771af3884c82f06244d1d0fe446aa"), looks := true }, kinds := [], alts := [], laidByText := true, laidKinds := [.data], laidTests := true, laidLooks := .later }
def TubeSpansCardSaid : Prop := Claim7.holds Tryd.pinned (.plain (OpenSpec.ofChange tubeSpansSpec)) tubeSpansCard

/-- THE TIED CARD OF 'sluicewaylaw13.TubeMade'. -/
def tubeMadeCard : Claim7 := { stood := { row := tubeMadeRow, standIns := [], harness := (true, "a78ed06b1cb28d2f6ae3b869a6294f4730d771af3884c82f06244d1d0fe446aa"), looks := true }, kinds := [], alts := [], laidByText := true, laidKinds := [.data], laidTests := true, laidLooks := .later }
def TubeMadeCardSaid : Prop := Claim7.holds Tryd.pinned (.plain (OpenSpec.ofChange tubeMadeSpec)) tubeMadeCard

/-- THE SECOND FORM's CARD OF 'sluicewaylaw11.BoxSets'. -/
def boxSetsUptoCard : Claim7 := { stood := { row := boxSetsUptoRow, standIns := [], harness := (true, "a78ed06b1cb28d2f6ae3b869a6294f4730d771af3884c82f06244d1d0fe446aa"), looks := true }, kinds := [], alts := [], laidByText := true, laidKinds := [.data], laidTests := true, laidLooks := .later }
def BoxSetsUptoCardSaid : Prop := Claim7.holds Tryd.pinned (.plain (OpenSpec.upto boxSetsSpec)) boxSetsUptoCard

/-- THE SECOND FORM's CARD OF 'sluicewaylaw11.BoxRows'. -/
def boxRowsUptoCard : Claim7 := { stood := { row := boxRowsUptoRow, standIns := [], harness := (true, "a78ed06b1cb28d2f6ae3b869a6294f4730d771af3884c82f06244d1d0fe446aa"), looks := true }, kinds := [], alts := [], laidByText := true, laidKinds := [.data], laidTests := true, laidLooks := .later }
def BoxRowsUptoCardSaid : Prop := Claim7.holds Tryd.pinned (.plain (OpenSpec.upto boxRowsSpec)) boxRowsUptoCard

/-- THE SECOND FORM's CARD OF 'sluicewaylaw13.TubeTimes'. -/
def tubeTimesUptoCard : Claim7 := { stood := { row := tubeTimesUptoRow, standIns := [], harness := (true, "a78ed06b1cb28d2f6ae3b869a6294f4730d771af3884c82f06244d1d0fe446aa"), looks := true }, kinds := [], alts := [], laidByText := true, laidKinds := [.data], laidTests := true, laidLooks := .later }
def TubeTimesUptoCardSaid : Prop := Claim7.holds Tryd.pinned (.plain (OpenSpec.upto tubeTimesSpec)) tubeTimesUptoCard

/-- THE SECOND FORM's CARD OF 'sluicewaylaw13.TubeOrder'. -/
def tubeOrderUptoCard : Claim7 := { stood := { row := tubeOrderUptoRow, standIns := [], harness := (true, "a78ed06b1cb28d2f6ae3b869a6294f4730d771af3884c82f06244d1d0fe446aa"), looks := true }, kinds := [], alts := [], laidByText := true, laidKinds := [.data], laidTests := true, laidLooks := .later }
def TubeOrderUptoCardSaid : Prop := Claim7.holds Tryd.pinned (.plain (OpenSpec.upto tubeOrderSpec)) tubeOrderUptoCard

/-- THE SECOND FORM's CARD OF 'sluicewaylaw13.TubeAsks'. -/
def tubeAsksUptoCard : Claim7 := { stood := { row := tubeAsksUptoRow, standIns := [], harness := (true, "a78ed06b1cb28d2f6ae3b869a6294f4730d771af3884c82f06244d1d0fe446aa"), looks := true }, kinds := [], alts := [], laidByText := true, laidKinds := [.data], laidTests := true, laidLooks := .later }
def TubeAsksUptoCardSaid : Prop := Claim7.holds Tryd.pinned (.plain (OpenSpec.upto tubeAsksSpec)) tubeAsksUptoCard

/-- THE SECOND FORM's CARD OF 'sluicewaylaw13.TubeSpans'. -/
def tubeSpansUptoCard : Claim7 := { stood := { row := tubeSpansUptoRow, standIns := [], harness := (true, "a78ed06b1cb28d2f6ae3b869a6294f4730d771af3884c82f06244d1d0fe446aa"), looks := true }, kinds := [], alts := [], laidByText := true, laidKinds := [.data], laidTests := true, laidLooks := .later }
def TubeSpansUptoCardSaid : Prop := Claim7.holds Tryd.pinned (.plain (OpenSpec.upto tubeSpansSpec)) tubeSpansUptoCard

/-- THE SECOND FORM's CARD OF 'sluicewaylaw13.TubeMade'. -/
def tubeMadeUptoCard : Claim7 := { stood := { row := tubeMadeUptoRow, standIns := [], harness := (true, "a78ed06b1cb28d2f6ae3b869a6294f4730d771af3884c82f06244d1d0fe446aa"), looks := true }, kinds := [], alts := [], laidByText := true, laidKinds := [.data], laidTests := true, laidLooks := .later }
def TubeMadeUptoCardSaid : Prop := Claim7.holds Tryd.pinned (.plain (OpenSpec.upto tubeMadeSpec)) tubeMadeUptoCard
end Rows
end Go.Proofs.YtbpfnooloemieaaDoor
