/-
  NARROWER THAN 'FOR EVERY INPUT', by the rows' own cells (each row's printed sentence says how): BoxSets: laid · BoxRows: laid · TubeTimes: laid · TubeOrder: laid · TubeAsks: laid · TubeSpans: laid · TubeMade: laid.
  DERIVED. THE GIVEN ROWS OF THIS SEAT. 7 by the template 'for every input the law returns true; each argument reads behind the call as it read before'; 0 by the template 'total and deterministic' (their statements: YtbpfnooloemieaaDoorTotals.lean).
  GIVEN WITH THE SEED: the statements are not yours to turn. If you find one false, say at which input.
  Laid BY PROGRAM, IN A SANDBOX (cutbox-rows.mjs): the forced cells as the released guide's own fill.sh prints them over the translation 8fabe16849903a6b… (all of the seat's roots in one cut). By AI agents, Wed Nov 11 2026. No macro, syntax, notation, axiom, sorry.
-/
import Derived.Test.YtbpfnooloemieaaDoorChecked
import GoSem.Claim
import GoSem.ClaimJoined
import GoSem.ClaimMapViews
import Derived.JoinedTies
import Derived.KernelRfl
namespace Go.Proofs.YtbpfnooloemieaaDoor
/- THE CELL 'sum', in the pinned program and in every row, IS THE sha256 OF THE DUMP (.gsa) THAT YtbpfnooloemieaaDoorProg.lean LOADS. Nothing in Lean hashes anything: it is a label: what it is worth is what the hold of that sum in a sandbox is worth. -/
noncomputable def Tryd.pinned : Pinned := { name := "ytbpfnooloemieaadoor", sum := "8fabe16849903a6b01e946cd6a696c94f4a0ae93a7be7e05c4046cce142a47a5", checked := Tryd.checked }
namespace Rows
def none {H : Type} : Left H := { results := [], args := [] }

/- WHAT THE LISTED PACKAGE-LEVEL VARIABLES READ AS WHEN THE CALL BEGINS. Each datum BY PROGRAM (the guide's laid-datum.mjs) off the statement by which the dump's own 'gosem.cut.vars' lays the variable. In a bare row this is a premise. The card (YtbpfnooloemieaaDoorCards.lean) ties it to the program's text. -/
def laid_math_bits_deBruijn64tab {H : Type} : DataW H := .agg [.lit (.int .u8 0), .lit (.int .u8 1), .lit (.int .u8 56), .lit (.int .u8 2), .lit (.int .u8 57), .lit (.int .u8 49), .lit (.int .u8 28), .lit (.int .u8 3), .lit (.int .u8 61), .lit (.int .u8 58), .lit (.int .u8 42), .lit (.int .u8 50), .lit (.int .u8 38), .lit (.int .u8 29), .lit (.int .u8 17), .lit (.int .u8 4), .lit (.int .u8 62), .lit (.int .u8 47), .lit (.int .u8 59), .lit (.int .u8 36), .lit (.int .u8 45), .lit (.int .u8 43), .lit (.int .u8 51), .lit (.int .u8 22), .lit (.int .u8 53), .lit (.int .u8 39), .lit (.int .u8 33), .lit (.int .u8 30), .lit (.int .u8 24), .lit (.int .u8 18), .lit (.int .u8 12), .lit (.int .u8 5), .lit (.int .u8 63), .lit (.int .u8 55), .lit (.int .u8 48), .lit (.int .u8 27), .lit (.int .u8 60), .lit (.int .u8 41), .lit (.int .u8 37), .lit (.int .u8 16), .lit (.int .u8 46), .lit (.int .u8 35), .lit (.int .u8 44), .lit (.int .u8 21), .lit (.int .u8 52), .lit (.int .u8 32), .lit (.int .u8 23), .lit (.int .u8 11), .lit (.int .u8 54), .lit (.int .u8 26), .lit (.int .u8 40), .lit (.int .u8 15), .lit (.int .u8 34), .lit (.int .u8 20), .lit (.int .u8 31), .lit (.int .u8 10), .lit (.int .u8 25), .lit (.int .u8 14), .lit (.int .u8 19), .lit (.int .u8 9), .lit (.int .u8 13), .lit (.int .u8 8), .lit (.int .u8 7), .lit (.int .u8 6)]

/-- 'sluicewaylaw11.BoxSets': WHATEVER THE INPUT: true; the input reads as it did. -/
def boxSetsSpec : ChangeSpec := { name := "boxSets", fn := fun _ => fun
  | [d1, d2, d3, d4] => { results := [.lit (.bool true)], args := [d1, d2, d3, d4] }
  | _ => none }
def boxSetsRow : OpenClaim := { program := "ytbpfnooloemieaadoor", sum := "8fabe16849903a6b01e946cd6a696c94f4a0ae93a7be7e05c4046cce142a47a5", func := "sluiceway/sluicewaylaw11.BoxSets", spec := "boxSets", inPlace := ["math/bits.Add64", "math/bits.Sub64"], unfollowed := true, recurses := true, named := ["math/bits.deBruijn64tab"], apart := false, laid := [("math/bits.deBruijn64tab", laid_math_bits_deBruijn64tab)] }
def BoxSetsSaid : Prop := boxSetsRow.holds Tryd.pinned (OpenSpec.ofChange boxSetsSpec)

/-- ITS FALSE NEIGHBOUR: 'it returns false'. Refute it at one input. -/
def boxSetsWrong : ChangeSpec := { name := "boxSets", fn := fun _ => fun
  | [d1, d2, d3, d4] => { results := [.lit (.bool false)], args := [d1, d2, d3, d4] }
  | _ => none }
def BoxSetsWrongFalsely : Prop := boxSetsRow.holds Tryd.pinned (OpenSpec.ofChange boxSetsWrong)

/-- 'sluicewaylaw11.BoxRows': WHATEVER THE INPUT: true; the input reads as it did. -/
def boxRowsSpec : ChangeSpec := { name := "boxRows", fn := fun _ => fun
  | [d1, d2] => { results := [.lit (.bool true)], args := [d1, d2] }
  | _ => none }
def boxRowsRow : OpenClaim := { program := "ytbpfnooloemieaadoor", sum := "8fabe16849903a6b01e946cd6a696c94f4a0ae93a7be7e05c4046cce142a47a5", func := "sluiceway/sluicewaylaw11.BoxRows", spec := "boxRows", inPlace := ["math/bits.Add64", "math/bits.Sub64"], unfollowed := true, recurses := true, named := ["math/bits.deBruijn64tab"], apart := false, laid := [("math/bits.deBruijn64tab", laid_math_bits_deBruijn64tab)] }
def BoxRowsSaid : Prop := boxRowsRow.holds Tryd.pinned (OpenSpec.ofChange boxRowsSpec)

/-- ITS FALSE NEIGHBOUR: 'it returns false'. Refute it at one input. -/
def boxRowsWrong : ChangeSpec := { name := "boxRows", fn := fun _ => fun
  | [d1, d2] => { results := [.lit (.bool false)], args := [d1, d2] }
  | _ => none }
def BoxRowsWrongFalsely : Prop := boxRowsRow.holds Tryd.pinned (OpenSpec.ofChange boxRowsWrong)

/-- 'sluicewaylaw13.TubeTimes': WHATEVER THE INPUT: true; the input reads as it did. -/
def tubeTimesSpec : ChangeSpec := { name := "tubeTimes", fn := fun _ => fun
  | [d1, d2, d3, d4] => { results := [.lit (.bool true)], args := [d1, d2, d3, d4] }
  | _ => none }
def tubeTimesRow : OpenClaim := { program := "ytbpfnooloemieaadoor", sum := "8fabe16849903a6b01e946cd6a696c94f4a0ae93a7be7e05c4046cce142a47a5", func := "sluiceway/sluicewaylaw13.TubeTimes", spec := "tubeTimes", inPlace := ["math/bits.Add64", "math/bits.Sub64"], unfollowed := true, recurses := true, named := ["math/bits.deBruijn64tab"], apart := false, laid := [("math/bits.deBruijn64tab", laid_math_bits_deBruijn64tab)] }
def TubeTimesSaid : Prop := tubeTimesRow.holds Tryd.pinned (OpenSpec.ofChange tubeTimesSpec)

/-- ITS FALSE NEIGHBOUR: 'it returns false'. Refute it at one input. -/
def tubeTimesWrong : ChangeSpec := { name := "tubeTimes", fn := fun _ => fun
  | [d1, d2, d3, d4] => { results := [.lit (.bool false)], args := [d1, d2, d3, d4] }
  | _ => none }
def TubeTimesWrongFalsely : Prop := tubeTimesRow.holds Tryd.pinned (OpenSpec.ofChange tubeTimesWrong)

/-- 'sluicewaylaw13.TubeOrder': WHATEVER THE INPUT: true; the input reads as it did. -/
def tubeOrderSpec : ChangeSpec := { name := "tubeOrder", fn := fun _ => fun
  | [d1, d2, d3] => { results := [.lit (.bool true)], args := [d1, d2, d3] }
  | _ => none }
def tubeOrderRow : OpenClaim := { program := "ytbpfnooloemieaadoor", sum := "8fabe16849903a6b01e946cd6a696c94f4a0ae93a7be7e05c4046cce142a47a5", func := "sluiceway/sluicewaylaw13.TubeOrder", spec := "tubeOrder", inPlace := ["math/bits.Add64", "math/bits.Sub64"], unfollowed := true, recurses := true, named := ["math/bits.deBruijn64tab"], apart := false, laid := [("math/bits.deBruijn64tab", laid_math_bits_deBruijn64tab)] }
def TubeOrderSaid : Prop := tubeOrderRow.holds Tryd.pinned (OpenSpec.ofChange tubeOrderSpec)

/-- ITS FALSE NEIGHBOUR: 'it returns false'. Refute it at one input. -/
def tubeOrderWrong : ChangeSpec := { name := "tubeOrder", fn := fun _ => fun
  | [d1, d2, d3] => { results := [.lit (.bool false)], args := [d1, d2, d3] }
  | _ => none }
def TubeOrderWrongFalsely : Prop := tubeOrderRow.holds Tryd.pinned (OpenSpec.ofChange tubeOrderWrong)

/-- 'sluicewaylaw13.TubeAsks': WHATEVER THE INPUT: true; the input reads as it did. -/
def tubeAsksSpec : ChangeSpec := { name := "tubeAsks", fn := fun _ => fun
  | [d1, d2, d3, d4, d5] => { results := [.lit (.bool true)], args := [d1, d2, d3, d4, d5] }
  | _ => none }
def tubeAsksRow : OpenClaim := { program := "ytbpfnooloemieaadoor", sum := "8fabe16849903a6b01e946cd6a696c94f4a0ae93a7be7e05c4046cce142a47a5", func := "sluiceway/sluicewaylaw13.TubeAsks", spec := "tubeAsks", inPlace := ["math/bits.Add64", "math/bits.Sub64"], unfollowed := true, recurses := true, named := ["math/bits.deBruijn64tab"], apart := false, laid := [("math/bits.deBruijn64tab", laid_math_bits_deBruijn64tab)] }
def TubeAsksSaid : Prop := tubeAsksRow.holds Tryd.pinned (OpenSpec.ofChange tubeAsksSpec)

/-- ITS FALSE NEIGHBOUR: 'it returns false'. Refute it at one input. -/
def tubeAsksWrong : ChangeSpec := { name := "tubeAsks", fn := fun _ => fun
  | [d1, d2, d3, d4, d5] => { results := [.lit (.bool false)], args := [d1, d2, d3, d4, d5] }
  | _ => none }
def TubeAsksWrongFalsely : Prop := tubeAsksRow.holds Tryd.pinned (OpenSpec.ofChange tubeAsksWrong)

/-- 'sluicewaylaw13.TubeSpans': WHATEVER THE INPUT: true; the input reads as it did. -/
def tubeSpansSpec : ChangeSpec := { name := "tubeSpans", fn := fun _ => fun
  | [d1, d2, d3] => { results := [.lit (.bool true)], args := [d1, d2, d3] }
  | _ => none }
def tubeSpansRow : OpenClaim := { program := "ytbpfnooloemieaadoor", sum := "8fabe16849903a6b01e946cd6a696c94f4a0ae93a7be7e05c4046cce142a47a5", func := "sluiceway/sluicewaylaw13.TubeSpans", spec := "tubeSpans", inPlace := ["math/bits.Add64", "math/bits.Sub64"], unfollowed := true, recurses := true, named := ["math/bits.deBruijn64tab"], apart := false, laid := [("math/bits.deBruijn64tab", laid_math_bits_deBruijn64tab)] }
def TubeSpansSaid : Prop := tubeSpansRow.holds Tryd.pinned (OpenSpec.ofChange tubeSpansSpec)

/-- ITS FALSE NEIGHBOUR: 'it returns false'. Refute it at one input. -/
def tubeSpansWrong : ChangeSpec := { name := "tubeSpans", fn := fun _ => fun
  | [d1, d2, d3] => { results := [.lit (.bool false)], args := [d1, d2, d3] }
  | _ => none }
def TubeSpansWrongFalsely : Prop := tubeSpansRow.holds Tryd.pinned (OpenSpec.ofChange tubeSpansWrong)

/-- 'sluicewaylaw13.TubeMade': WHATEVER THE INPUT: true; the input reads as it did. -/
def tubeMadeSpec : ChangeSpec := { name := "tubeMade", fn := fun _ => fun
  | [d1, d2, d3, d4, d5] => { results := [.lit (.bool true)], args := [d1, d2, d3, d4, d5] }
  | _ => none }
def tubeMadeRow : OpenClaim := { program := "ytbpfnooloemieaadoor", sum := "8fabe16849903a6b01e946cd6a696c94f4a0ae93a7be7e05c4046cce142a47a5", func := "sluiceway/sluicewaylaw13.TubeMade", spec := "tubeMade", inPlace := ["math/bits.Add64", "math/bits.Sub64"], unfollowed := true, recurses := true, named := ["math/bits.deBruijn64tab"], apart := false, laid := [("math/bits.deBruijn64tab", laid_math_bits_deBruijn64tab)] }
def TubeMadeSaid : Prop := tubeMadeRow.holds Tryd.pinned (OpenSpec.ofChange tubeMadeSpec)

/-- ITS FALSE NEIGHBOUR: 'it returns false'. Refute it at one input. -/
def tubeMadeWrong : ChangeSpec := { name := "tubeMade", fn := fun _ => fun
  | [d1, d2, d3, d4, d5] => { results := [.lit (.bool false)], args := [d1, d2, d3, d4, d5] }
  | _ => none }
def TubeMadeWrongFalsely : Prop := tubeMadeRow.holds Tryd.pinned (OpenSpec.ofChange tubeMadeWrong)

/- THE SECOND FORM. 'bulk': how many values and letters a reading holds, each counted each time it is reached (what is shared counts as often as it is met; a slice's spare places count too). A statement '..UptoSaid' is the law's where the arguments, and the package variables that the reading takes, are together of bulk at most 1048576: NARROWER than '..Said'. Prove '..Said' where nothing that the law and all that it calls make is longer than what came in: it says more and counts as full. Else prove '..UptoSaid'. A law counts once. -/
mutual
def uptoBulk {H : Type} : DataW H → Nat
  | .lit (.string bytes) => bytes.length + 1
  | .lit _ => 1
  | .nil => 1
  | .ptr d => uptoBulk d + 1
  | .slice elems spare => uptoBulkAll elems + uptoBulkAll spare + 1
  | .agg parts => uptoBulkAll parts + 1
  | .iface _ d => uptoBulk d + 1
  | .map entries => uptoBulkEntries entries + 1
  | .held _ => 1
def uptoBulkAll {H : Type} : List (DataW H) → Nat
  | [] => 0
  | d :: r => uptoBulk d + uptoBulkAll r
def uptoBulkEntries {H : Type} : List (Lit × DataW H) → Nat
  | [] => 0
  | x :: r => uptoBulkEntry x + uptoBulkEntries r
def uptoBulkEntry {H : Type} : Lit × DataW H → Nat
  | (.string bytes, d) => bytes.length + uptoBulk d + 1
  | (_, d) => uptoBulk d + 1
 end
def uptoSmall : (H : Type) → List (DataW H) → Bool := fun _ ds => decide (uptoBulkAll ds ≤ 1048576)
def OpenSpec.upto (s : _root_.Go.ChangeSpec) : _root_.Go.OpenSpec := { _root_.Go.OpenSpec.ofChange s with cond := some uptoSmall }

/-- 'sluicewaylaw11.BoxSets', WHERE WHAT IT READS IS OF BULK AT MOST 1048576: true; the input reads as it did. -/
def boxSetsUptoRow : OpenClaim := { program := "ytbpfnooloemieaadoor", sum := "8fabe16849903a6b01e946cd6a696c94f4a0ae93a7be7e05c4046cce142a47a5", func := "sluiceway/sluicewaylaw11.BoxSets", spec := "boxSets", inPlace := ["math/bits.Add64", "math/bits.Sub64"], unfollowed := true, recurses := true, named := ["math/bits.deBruijn64tab"], apart := false, laid := [("math/bits.deBruijn64tab", laid_math_bits_deBruijn64tab)], narrowed := true }
def BoxSetsUptoSaid : Prop := boxSetsUptoRow.holds Tryd.pinned (OpenSpec.upto boxSetsSpec)

/-- 'sluicewaylaw11.BoxRows', WHERE WHAT IT READS IS OF BULK AT MOST 1048576: true; the input reads as it did. -/
def boxRowsUptoRow : OpenClaim := { program := "ytbpfnooloemieaadoor", sum := "8fabe16849903a6b01e946cd6a696c94f4a0ae93a7be7e05c4046cce142a47a5", func := "sluiceway/sluicewaylaw11.BoxRows", spec := "boxRows", inPlace := ["math/bits.Add64", "math/bits.Sub64"], unfollowed := true, recurses := true, named := ["math/bits.deBruijn64tab"], apart := false, laid := [("math/bits.deBruijn64tab", laid_math_bits_deBruijn64tab)], narrowed := true }
def BoxRowsUptoSaid : Prop := boxRowsUptoRow.holds Tryd.pinned (OpenSpec.upto boxRowsSpec)

/-- 'sluicewaylaw13.TubeTimes', WHERE WHAT IT READS IS OF BULK AT MOST 1048576: true; the input reads as it did. -/
def tubeTimesUptoRow : OpenClaim := { program := "ytbpfnooloemieaadoor", sum := "8fabe16849903a6b01e946cd6a696c94f4a0ae93a7be7e05c4046cce142a47a5", func := "sluiceway/sluicewaylaw13.TubeTimes", spec := "tubeTimes", inPlace := ["math/bits.Add64", "math/bits.Sub64"], unfollowed := true, recurses := true, named := ["math/bits.deBruijn64tab"], apart := false, laid := [("math/bits.deBruijn64tab", laid_math_bits_deBruijn64tab)], narrowed := true }
def TubeTimesUptoSaid : Prop := tubeTimesUptoRow.holds Tryd.pinned (OpenSpec.upto tubeTimesSpec)

/-- 'sluicewaylaw13.TubeOrder', WHERE WHAT IT READS IS OF BULK AT MOST 1048576: true; the input reads as it did. -/
def tubeOrderUptoRow : OpenClaim := { program := "ytbpfnooloemieaadoor", sum := "8fabe16849903a6b01e946cd6a696c94f4a0ae93a7be7e05c4046cce142a47a5", func := "sluiceway/sluicewaylaw13.TubeOrder", spec := "tubeOrder", inPlace := ["math/bits.Add64", "math/bits.Sub64"], unfollowed := true, recurses := true, named := ["math/bits.deBruijn64tab"], apart := false, laid := [("math/bits.deBruijn64tab", laid_math_bits_deBruijn64tab)], narrowed := true }
def TubeOrderUptoSaid : Prop := tubeOrderUptoRow.holds Tryd.pinned (OpenSpec.upto tubeOrderSpec)

/-- 'sluicewaylaw13.TubeAsks', WHERE WHAT IT READS IS OF BULK AT MOST 1048576: true; the input reads as it did. -/
def tubeAsksUptoRow : OpenClaim := { program := "ytbpfnooloemieaadoor", sum := "8fabe16849903a6b01e946cd6a696c94f4a0ae93a7be7e05c4046cce142a47a5", func := "sluiceway/sluicewaylaw13.TubeAsks", spec := "tubeAsks", inPlace := ["math/bits.Add64", "math/bits.Sub64"], unfollowed := true, recurses := true, named := ["math/bits.deBruijn64tab"], apart := false, laid := [("math/bits.deBruijn64tab", laid_math_bits_deBruijn64tab)], narrowed := true }
def TubeAsksUptoSaid : Prop := tubeAsksUptoRow.holds Tryd.pinned (OpenSpec.upto tubeAsksSpec)

/-- 'sluicewaylaw13.TubeSpans', WHERE WHAT IT READS IS OF BULK AT MOST 1048576: true; the input reads as it did. -/
def tubeSpansUptoRow : OpenClaim := { program := "ytbpfnooloemieaadoor", sum := "8fabe16849903a6b01e946cd6a696c94f4a0ae93a7be7e05c4046cce142a47a5", func := "sluiceway/sluicewaylaw13.TubeSpans", spec := "tubeSpans", inPlace := ["math/bits.Add64", "math/bits.Sub64"], unfollowed := true, recurses := true, named := ["math/bits.deBruijn64tab"], apart := false, laid := [("math/bits.deBruijn64tab", laid_math_bits_deBruijn64tab)], narrowed := true }
def TubeSpansUptoSaid : Prop := tubeSpansUptoRow.holds Tryd.pinned (OpenSpec.upto tubeSpansSpec)

/-- 'sluicewaylaw13.TubeMade', WHERE WHAT IT READS IS OF BULK AT MOST 1048576: true; the input reads as it did. -/
def tubeMadeUptoRow : OpenClaim := { program := "ytbpfnooloemieaadoor", sum := "8fabe16849903a6b01e946cd6a696c94f4a0ae93a7be7e05c4046cce142a47a5", func := "sluiceway/sluicewaylaw13.TubeMade", spec := "tubeMade", inPlace := ["math/bits.Add64", "math/bits.Sub64"], unfollowed := true, recurses := true, named := ["math/bits.deBruijn64tab"], apart := false, laid := [("math/bits.deBruijn64tab", laid_math_bits_deBruijn64tab)], narrowed := true }
def TubeMadeUptoSaid : Prop := tubeMadeUptoRow.holds Tryd.pinned (OpenSpec.upto tubeMadeSpec)

end Rows
end Go.Proofs.YtbpfnooloemieaaDoor
