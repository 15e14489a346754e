/-
  DERIVED. GIVEN WITH THE SEED: THE CARDS: each row of YteodljieiloebaaDoorRows.lean that lists a variable, with what it lists TIED to the program's text (the seventh form; the later family's looks); each row that meets fmt, with fmt's text TOLD by the authors' own Lean function (tested against real Go, not proved from fmt's source: count such statements apart). THE CARD IS WHAT COUNTS. Prove the row's statement (the work); the ties are given (YteodljieiloebaaDoorTie.lean); close each card by the builder's one call (the guide's Derived/Test/ToyasCard.lean, 'card_holds'). Laid BY PROGRAM, IN A SANDBOX (cutbox-door.mjs). By AI agents, Wed Nov 11 2026. No macro, syntax, notation, axiom, sorry.
-/
import Derived.Test.YteodljieiloebaaDoorRows
import GoSem.ClaimSeven
namespace Go.Proofs.YteodljieiloebaaDoor
namespace Rows

/-- THE TIED CARD OF 'sluicewaylaw5.IvalMany'. -/
def ivalManyCard : Claim7 := { stood := { row := ivalManyRow, standIns := [], harness := (true, "fcc30d1d6fb5bd69955a43cabf469543ea6c27e822d51840eb46810c2e368ce2"), looks := true }, kinds := [], alts := [], laidByText := true, laidKinds := [.data], laidTests := true, laidLooks := .later }
def IvalManyCardSaid : Prop := Claim7.holds Tryd.pinned (.plain (OpenSpec.ofChange ivalManySpec)) ivalManyCard

/-- THE TIED CARD OF 'sluicewaylaw5.IvalRounds'. -/
def ivalRoundsCard : Claim7 := { stood := { row := ivalRoundsRow, standIns := [], harness := (true, "fcc30d1d6fb5bd69955a43cabf469543ea6c27e822d51840eb46810c2e368ce2"), looks := true }, kinds := [], alts := [], laidByText := true, laidKinds := [.data], laidTests := true, laidLooks := .later }
def IvalRoundsCardSaid : Prop := Claim7.holds Tryd.pinned (.plain (OpenSpec.ofChange ivalRoundsSpec)) ivalRoundsCard

/-- THE TIED CARD OF 'sluicewaylaw3.RoundAsks'. -/
def roundAsksCard : Claim7 := { stood := { row := roundAsksRow, standIns := [], harness := (true, "fcc30d1d6fb5bd69955a43cabf469543ea6c27e822d51840eb46810c2e368ce2"), looks := true }, kinds := [], alts := [], laidByText := true, laidKinds := [.data], laidTests := true, laidLooks := .later }
def RoundAsksCardSaid : Prop := Claim7.holds Tryd.pinned (.plain (OpenSpec.ofChange roundAsksSpec)) roundAsksCard

/-- THE TIED CARD OF 'sluicewaylaw3.RoundQuot'. -/
def roundQuotCard : Claim7 := { stood := { row := roundQuotRow, standIns := [], harness := (true, "fcc30d1d6fb5bd69955a43cabf469543ea6c27e822d51840eb46810c2e368ce2"), looks := true }, kinds := [], alts := [], laidByText := true, laidKinds := [.data], laidTests := true, laidLooks := .later }
def RoundQuotCardSaid : Prop := Claim7.holds Tryd.pinned (.plain (OpenSpec.ofChange roundQuotSpec)) roundQuotCard

/-- THE TIED CARD OF 'sluicewaylaw3.RoundRoot'. -/
def roundRootCard : Claim7 := { stood := { row := roundRootRow, standIns := [], harness := (true, "fcc30d1d6fb5bd69955a43cabf469543ea6c27e822d51840eb46810c2e368ce2"), looks := true }, kinds := [], alts := [], laidByText := true, laidKinds := [.data], laidTests := true, laidLooks := .later }
def RoundRootCardSaid : Prop := Claim7.holds Tryd.pinned (.plain (OpenSpec.ofChange roundRootSpec)) roundRootCard

/-- THE TIED CARD OF 'sluicewaylaw3.RoundTwice'. -/
def roundTwiceCard : Claim7 := { stood := { row := roundTwiceRow, standIns := [], harness := (true, "fcc30d1d6fb5bd69955a43cabf469543ea6c27e822d51840eb46810c2e368ce2"), looks := true }, kinds := [], alts := [], laidByText := true, laidKinds := [.data], laidTests := true, laidLooks := .later }
def RoundTwiceCardSaid : Prop := Claim7.holds Tryd.pinned (.plain (OpenSpec.ofChange roundTwiceSpec)) roundTwiceCard

/-- THE TIED CARD OF 'sluicewaylaw3.RoundExact'. -/
def roundExactCard : Claim7 := { stood := { row := roundExactRow, standIns := [], harness := (true, "fcc30d1d6fb5bd69955a43cabf469543ea6c27e822d51840eb46810c2e368ce2"), looks := true }, kinds := [], alts := [], laidByText := true, laidKinds := [.data], laidTests := true, laidLooks := .later }
def RoundExactCardSaid : Prop := Claim7.holds Tryd.pinned (.plain (OpenSpec.ofChange roundExactSpec)) roundExactCard

/-- THE TIED CARD OF 'sluicewaylaw3.RoundNear'. -/
def roundNearCard : Claim7 := { stood := { row := roundNearRow, standIns := [], harness := (true, "fcc30d1d6fb5bd69955a43cabf469543ea6c27e822d51840eb46810c2e368ce2"), looks := true }, kinds := [], alts := [], laidByText := true, laidKinds := [.data], laidTests := true, laidLooks := .later }
def RoundNearCardSaid : Prop := Claim7.holds Tryd.pinned (.plain (OpenSpec.ofChange roundNearSpec)) roundNearCard

/-- THE TIED CARD OF 'sluicewaylaw3.RoundBetween'. -/
def roundBetweenCard : Claim7 := { stood := { row := roundBetweenRow, standIns := [], harness := (true, "fcc30d1d6fb5bd69955a43cabf469543ea6c27e822d51840eb46810c2e368ce2"), looks := true }, kinds := [], alts := [], laidByText := true, laidKinds := [.data], laidTests := true, laidLooks := .later }
def RoundBetweenCardSaid : Prop := Claim7.holds Tryd.pinned (.plain (OpenSpec.ofChange roundBetweenSpec)) roundBetweenCard

/-- THE TIED CARD OF 'sluicewaylaw3.RoundHolds'. -/
def roundHoldsCard : Claim7 := { stood := { row := roundHoldsRow, standIns := [], harness := (true, "fcc30d1d6fb5bd69955a43cabf469543ea6c27e822d51840eb46810c2e368ce2"), looks := true }, kinds := [], alts := [], laidByText := true, laidKinds := [.data], laidTests := true, laidLooks := .later }
def RoundHoldsCardSaid : Prop := Claim7.holds Tryd.pinned (.plain (OpenSpec.ofChange roundHoldsSpec)) roundHoldsCard

/-- THE SECOND FORM's CARD OF 'sluicewaylaw5.IvalMany'. -/
def ivalManyUptoCard : Claim7 := { stood := { row := ivalManyUptoRow, standIns := [], harness := (true, "fcc30d1d6fb5bd69955a43cabf469543ea6c27e822d51840eb46810c2e368ce2"), looks := true }, kinds := [], alts := [], laidByText := true, laidKinds := [.data], laidTests := true, laidLooks := .later }
def IvalManyUptoCardSaid : Prop := Claim7.holds Tryd.pinned (.plain (OpenSpec.upto ivalManySpec)) ivalManyUptoCard

/-- THE SECOND FORM's CARD OF 'sluicewaylaw5.IvalRounds'. -/
def ivalRoundsUptoCard : Claim7 := { stood := { row := ivalRoundsUptoRow, standIns := [], harness := (true, "fcc30d1d6fb5bd69955a43cabf469543ea6c27e822d51840eb46810c2e368ce2"), looks := true }, kinds := [], alts := [], laidByText := true, laidKinds := [.data], laidTests := true, laidLooks := .later }
def IvalRoundsUptoCardSaid : Prop := Claim7.holds Tryd.pinned (.plain (OpenSpec.upto ivalRoundsSpec)) ivalRoundsUptoCard

/-- THE SECOND FORM's CARD OF 'sluicewaylaw3.RoundAsks'. -/
def roundAsksUptoCard : Claim7 := { stood := { row := roundAsksUptoRow, standIns := [], harness := (true, "fcc30d1d6fb5bd69955a43cabf469543ea6c27e822d51840eb46810c2e368ce2"), looks := true }, kinds := [], alts := [], laidByText := true, laidKinds := [.data], laidTests := true, laidLooks := .later }
def RoundAsksUptoCardSaid : Prop := Claim7.holds Tryd.pinned (.plain (OpenSpec.upto roundAsksSpec)) roundAsksUptoCard

/-- THE SECOND FORM's CARD OF 'sluicewaylaw3.RoundQuot'. -/
def roundQuotUptoCard : Claim7 := { stood := { row := roundQuotUptoRow, standIns := [], harness := (true, "fcc30d1d6fb5bd69955a43cabf469543ea6c27e822d51840eb46810c2e368ce2"), looks := true }, kinds := [], alts := [], laidByText := true, laidKinds := [.data], laidTests := true, laidLooks := .later }
def RoundQuotUptoCardSaid : Prop := Claim7.holds Tryd.pinned (.plain (OpenSpec.upto roundQuotSpec)) roundQuotUptoCard

/-- THE SECOND FORM's CARD OF 'sluicewaylaw3.RoundRoot'. -/
def roundRootUptoCard : Claim7 := { stood := { row := roundRootUptoRow, standIns := [], harness := (true, "fcc30d1d6fb5bd69955a43cabf469543ea6c27e822d51840eb46810c2e368ce2"), looks := true }, kinds := [], alts := [], laidByText := true, laidKinds := [.data], laidTests := true, laidLooks := .later }
def RoundRootUptoCardSaid : Prop := Claim7.holds Tryd.pinned (.plain (OpenSpec.upto roundRootSpec)) roundRootUptoCard

/-- THE SECOND FORM's CARD OF 'sluicewaylaw3.RoundTwice'. -/
def roundTwiceUptoCard : Claim7 := { stood := { row := roundTwiceUptoRow, standIns := [], harness := (true, "fcc30d1d6fb5bd69955a43cabf469543ea6c27e822d51840eb46810c2e368ce2"), looks := true }, kinds := [], alts := [], laidByText := true, laidKinds := [.data], laidTests := true, laidLooks := .later }
def RoundTwiceUptoCardSaid : Prop := Claim7.holds Tryd.pinned (.plain (OpenSpec.upto roundTwiceSpec)) roundTwiceUptoCard

/-- THE SECOND FORM's CARD OF 'sluicewaylaw3.RoundExact'. -/
def roundExactUptoCard : Claim7 := { stood := { row := roundExactUptoRow, standIns := [], harness := (true, "fcc30d1d6fb5bd69955a43cabf469543ea6c27e822d51840eb46810c2e368ce2"), looks := true }, kinds := [], alts := [], laidByText := true, laidKinds := [.data], laidTests := true, laidLooks := .later }
def RoundExactUptoCardSaid : Prop := Claim7.holds Tryd.pinned (.plain (OpenSpec.upto roundExactSpec)) roundExactUptoCard

/-- THE SECOND FORM's CARD OF 'sluicewaylaw3.RoundNear'. -/
def roundNearUptoCard : Claim7 := { stood := { row := roundNearUptoRow, standIns := [], harness := (true, "fcc30d1d6fb5bd69955a43cabf469543ea6c27e822d51840eb46810c2e368ce2"), looks := true }, kinds := [], alts := [], laidByText := true, laidKinds := [.data], laidTests := true, laidLooks := .later }
def RoundNearUptoCardSaid : Prop := Claim7.holds Tryd.pinned (.plain (OpenSpec.upto roundNearSpec)) roundNearUptoCard

/-- THE SECOND FORM's CARD OF 'sluicewaylaw3.RoundBetween'. -/
def roundBetweenUptoCard : Claim7 := { stood := { row := roundBetweenUptoRow, standIns := [], harness := (true, "fcc30d1d6fb5bd69955a43cabf469543ea6c27e822d51840eb46810c2e368ce2"), looks := true }, kinds := [], alts := [], laidByText := true, laidKinds := [.data], laidTests := true, laidLooks := .later }
def RoundBetweenUptoCardSaid : Prop := Claim7.holds Tryd.pinned (.plain (OpenSpec.upto roundBetweenSpec)) roundBetweenUptoCard

/-- THE SECOND FORM's CARD OF 'sluicewaylaw3.RoundHolds'. -/
def roundHoldsUptoCard : Claim7 := { stood := { row := roundHoldsUptoRow, standIns := [], harness := (true, "fcc30d1d6fb5bd69955a43cabf469543ea6c27e822d51840eb46810c2e368ce2"), looks := true }, kinds := [], alts := [], laidByText := true, laidKinds := [.data], laidTests := true, laidLooks := .later }
def RoundHoldsUptoCardSaid : Prop := Claim7.holds Tryd.pinned (.plain (OpenSpec.upto roundHoldsSpec)) roundHoldsUptoCard
end Rows
end Go.Proofs.YteodljieiloebaaDoor
