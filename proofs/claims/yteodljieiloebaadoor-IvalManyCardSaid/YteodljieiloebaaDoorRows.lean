/-
  NARROWER THAN 'FOR EVERY INPUT', by the rows' own cells (each row's printed sentence says how): IvalMany: laid · IvalRounds: laid · RoundAsks: laid · RoundQuot: laid · RoundRoot: laid · RoundTwice: laid · RoundExact: laid · RoundNear: laid · RoundBetween: laid · RoundHolds: laid.
  DERIVED. THE GIVEN ROWS OF THIS SEAT. 10 by the template 'for every input the law returns true; each argument reads behind the call as it read before'; 0 by the template 'total and deterministic' (their statements: YteodljieiloebaaDoorTotals.lean).
  GIVEN WITH THE SEED: the statements are not yours to turn. If you find one false, say at which input.
  Laid BY PROGRAM, IN A SANDBOX (cutbox-rows.mjs): the forced cells as the released guide's own fill.sh prints them over the translation 4e815b5b114c3306… (all of the seat's roots in one cut). By AI agents, Wed Nov 11 2026. No macro, syntax, notation, axiom, sorry.
-/
import Derived.Test.YteodljieiloebaaDoorChecked
import GoSem.Claim
import GoSem.ClaimJoined
import GoSem.ClaimMapViews
import Derived.JoinedTies
import Derived.KernelRfl
namespace Go.Proofs.YteodljieiloebaaDoor
/- THE CELL 'sum', in the pinned program and in every row, IS THE sha256 OF THE DUMP (.gsa) THAT YteodljieiloebaaDoorProg.lean LOADS. Nothing in Lean hashes anything: it is a label: what it is worth is what the hold of that sum in a sandbox is worth. -/
noncomputable def Tryd.pinned : Pinned := { name := "yteodljieiloebaadoor", sum := "4e815b5b114c33063740736d7ef535a47040d9968443e34286b76855a44773d8", checked := Tryd.checked }
namespace Rows
def none {H : Type} : Left H := { results := [], args := [] }

/- WHAT THE LISTED PACKAGE-LEVEL VARIABLES READ AS WHEN THE CALL BEGINS. Each datum BY PROGRAM (the guide's laid-datum.mjs) off the statement by which the dump's own 'gosem.cut.vars' lays the variable. In a bare row this is a premise. The card (YteodljieiloebaaDoorCards.lean) ties it to the program's text. -/
def laid_math_bits_deBruijn64tab {H : Type} : DataW H := .agg [.lit (.int .u8 0), .lit (.int .u8 1), .lit (.int .u8 56), .lit (.int .u8 2), .lit (.int .u8 57), .lit (.int .u8 49), .lit (.int .u8 28), .lit (.int .u8 3), .lit (.int .u8 61), .lit (.int .u8 58), .lit (.int .u8 42), .lit (.int .u8 50), .lit (.int .u8 38), .lit (.int .u8 29), .lit (.int .u8 17), .lit (.int .u8 4), .lit (.int .u8 62), .lit (.int .u8 47), .lit (.int .u8 59), .lit (.int .u8 36), .lit (.int .u8 45), .lit (.int .u8 43), .lit (.int .u8 51), .lit (.int .u8 22), .lit (.int .u8 53), .lit (.int .u8 39), .lit (.int .u8 33), .lit (.int .u8 30), .lit (.int .u8 24), .lit (.int .u8 18), .lit (.int .u8 12), .lit (.int .u8 5), .lit (.int .u8 63), .lit (.int .u8 55), .lit (.int .u8 48), .lit (.int .u8 27), .lit (.int .u8 60), .lit (.int .u8 41), .lit (.int .u8 37), .lit (.int .u8 16), .lit (.int .u8 46), .lit (.int .u8 35), .lit (.int .u8 44), .lit (.int .u8 21), .lit (.int .u8 52), .lit (.int .u8 32), .lit (.int .u8 23), .lit (.int .u8 11), .lit (.int .u8 54), .lit (.int .u8 26), .lit (.int .u8 40), .lit (.int .u8 15), .lit (.int .u8 34), .lit (.int .u8 20), .lit (.int .u8 31), .lit (.int .u8 10), .lit (.int .u8 25), .lit (.int .u8 14), .lit (.int .u8 19), .lit (.int .u8 9), .lit (.int .u8 13), .lit (.int .u8 8), .lit (.int .u8 7), .lit (.int .u8 6)]

/-- 'sluicewaylaw5.IvalMany': WHATEVER THE INPUT: true; the input reads as it did. -/
def ivalManySpec : ChangeSpec := { name := "ivalMany", fn := fun _ => fun
  | [d] => { results := [.lit (.bool true)], args := [d] }
  | _ => none }
def ivalManyRow : OpenClaim := { program := "yteodljieiloebaadoor", sum := "4e815b5b114c33063740736d7ef535a47040d9968443e34286b76855a44773d8", func := "sluiceway/sluicewaylaw5.IvalMany", spec := "ivalMany", inPlace := ["math/bits.Add64", "math/bits.Sub64"], unfollowed := true, recurses := true, named := ["math/bits.deBruijn64tab"], apart := false, laid := [("math/bits.deBruijn64tab", laid_math_bits_deBruijn64tab)] }
def IvalManySaid : Prop := ivalManyRow.holds Tryd.pinned (OpenSpec.ofChange ivalManySpec)

/-- ITS FALSE NEIGHBOUR: 'it returns false'. Refute it at one input. -/
def ivalManyWrong : ChangeSpec := { name := "ivalMany", fn := fun _ => fun
  | [d] => { results := [.lit (.bool false)], args := [d] }
  | _ => none }
def IvalManyWrongFalsely : Prop := ivalManyRow.holds Tryd.pinned (OpenSpec.ofChange ivalManyWrong)

/-- 'sluicewaylaw5.IvalRounds': WHATEVER THE INPUT: true; the input reads as it did. -/
def ivalRoundsSpec : ChangeSpec := { name := "ivalRounds", fn := fun _ => fun
  | [d1, d2, d3] => { results := [.lit (.bool true)], args := [d1, d2, d3] }
  | _ => none }
def ivalRoundsRow : OpenClaim := { program := "yteodljieiloebaadoor", sum := "4e815b5b114c33063740736d7ef535a47040d9968443e34286b76855a44773d8", func := "sluiceway/sluicewaylaw5.IvalRounds", spec := "ivalRounds", inPlace := ["math/bits.Add64", "math/bits.Sub64"], unfollowed := true, recurses := true, named := ["math/bits.deBruijn64tab"], apart := false, laid := [("math/bits.deBruijn64tab", laid_math_bits_deBruijn64tab)] }
def IvalRoundsSaid : Prop := ivalRoundsRow.holds Tryd.pinned (OpenSpec.ofChange ivalRoundsSpec)

/-- ITS FALSE NEIGHBOUR: 'it returns false'. Refute it at one input. -/
def ivalRoundsWrong : ChangeSpec := { name := "ivalRounds", fn := fun _ => fun
  | [d1, d2, d3] => { results := [.lit (.bool false)], args := [d1, d2, d3] }
  | _ => none }
def IvalRoundsWrongFalsely : Prop := ivalRoundsRow.holds Tryd.pinned (OpenSpec.ofChange ivalRoundsWrong)

/-- 'sluicewaylaw3.RoundAsks': WHATEVER THE INPUT: true; the input reads as it did. -/
def roundAsksSpec : ChangeSpec := { name := "roundAsks", fn := fun _ => fun
  | [d1, d2] => { results := [.lit (.bool true)], args := [d1, d2] }
  | _ => none }
def roundAsksRow : OpenClaim := { program := "yteodljieiloebaadoor", sum := "4e815b5b114c33063740736d7ef535a47040d9968443e34286b76855a44773d8", func := "sluiceway/sluicewaylaw3.RoundAsks", spec := "roundAsks", inPlace := ["math/bits.Add64", "math/bits.Sub64"], unfollowed := true, recurses := true, named := ["math/bits.deBruijn64tab", "math/bits.divideError", "math/bits.overflowError"], apart := false, laid := [("math/bits.deBruijn64tab", laid_math_bits_deBruijn64tab)] }
def RoundAsksSaid : Prop := roundAsksRow.holds Tryd.pinned (OpenSpec.ofChange roundAsksSpec)

/-- ITS FALSE NEIGHBOUR: 'it returns false'. Refute it at one input. -/
def roundAsksWrong : ChangeSpec := { name := "roundAsks", fn := fun _ => fun
  | [d1, d2] => { results := [.lit (.bool false)], args := [d1, d2] }
  | _ => none }
def RoundAsksWrongFalsely : Prop := roundAsksRow.holds Tryd.pinned (OpenSpec.ofChange roundAsksWrong)

/-- 'sluicewaylaw3.RoundQuot': WHATEVER THE INPUT: true; the input reads as it did. -/
def roundQuotSpec : ChangeSpec := { name := "roundQuot", fn := fun _ => fun
  | [d1, d2, d3, d4] => { results := [.lit (.bool true)], args := [d1, d2, d3, d4] }
  | _ => none }
def roundQuotRow : OpenClaim := { program := "yteodljieiloebaadoor", sum := "4e815b5b114c33063740736d7ef535a47040d9968443e34286b76855a44773d8", func := "sluiceway/sluicewaylaw3.RoundQuot", spec := "roundQuot", inPlace := ["math/bits.Add64", "math/bits.Sub64"], unfollowed := true, recurses := true, named := ["math/bits.deBruijn64tab", "math/bits.divideError", "math/bits.overflowError"], apart := false, laid := [("math/bits.deBruijn64tab", laid_math_bits_deBruijn64tab)] }
def RoundQuotSaid : Prop := roundQuotRow.holds Tryd.pinned (OpenSpec.ofChange roundQuotSpec)

/-- ITS FALSE NEIGHBOUR: 'it returns false'. Refute it at one input. -/
def roundQuotWrong : ChangeSpec := { name := "roundQuot", fn := fun _ => fun
  | [d1, d2, d3, d4] => { results := [.lit (.bool false)], args := [d1, d2, d3, d4] }
  | _ => none }
def RoundQuotWrongFalsely : Prop := roundQuotRow.holds Tryd.pinned (OpenSpec.ofChange roundQuotWrong)

/-- 'sluicewaylaw3.RoundRoot': WHATEVER THE INPUT: true; the input reads as it did. -/
def roundRootSpec : ChangeSpec := { name := "roundRoot", fn := fun _ => fun
  | [d1, d2, d3] => { results := [.lit (.bool true)], args := [d1, d2, d3] }
  | _ => none }
def roundRootRow : OpenClaim := { program := "yteodljieiloebaadoor", sum := "4e815b5b114c33063740736d7ef535a47040d9968443e34286b76855a44773d8", func := "sluiceway/sluicewaylaw3.RoundRoot", spec := "roundRoot", inPlace := ["math/bits.Add64", "math/bits.Sub64"], unfollowed := true, recurses := true, named := ["math/bits.deBruijn64tab", "math/bits.divideError", "math/bits.overflowError"], apart := false, laid := [("math/bits.deBruijn64tab", laid_math_bits_deBruijn64tab)] }
def RoundRootSaid : Prop := roundRootRow.holds Tryd.pinned (OpenSpec.ofChange roundRootSpec)

/-- ITS FALSE NEIGHBOUR: 'it returns false'. Refute it at one input. -/
def roundRootWrong : ChangeSpec := { name := "roundRoot", fn := fun _ => fun
  | [d1, d2, d3] => { results := [.lit (.bool false)], args := [d1, d2, d3] }
  | _ => none }
def RoundRootWrongFalsely : Prop := roundRootRow.holds Tryd.pinned (OpenSpec.ofChange roundRootWrong)

/-- 'sluicewaylaw3.RoundTwice': WHATEVER THE INPUT: true; the input reads as it did. -/
def roundTwiceSpec : ChangeSpec := { name := "roundTwice", fn := fun _ => fun
  | [d1, d2, d3, d4] => { results := [.lit (.bool true)], args := [d1, d2, d3, d4] }
  | _ => none }
def roundTwiceRow : OpenClaim := { program := "yteodljieiloebaadoor", sum := "4e815b5b114c33063740736d7ef535a47040d9968443e34286b76855a44773d8", func := "sluiceway/sluicewaylaw3.RoundTwice", spec := "roundTwice", inPlace := ["math/bits.Add64", "math/bits.Sub64"], unfollowed := true, recurses := true, named := ["math/bits.deBruijn64tab", "math/bits.divideError", "math/bits.overflowError"], apart := false, laid := [("math/bits.deBruijn64tab", laid_math_bits_deBruijn64tab)] }
def RoundTwiceSaid : Prop := roundTwiceRow.holds Tryd.pinned (OpenSpec.ofChange roundTwiceSpec)

/-- ITS FALSE NEIGHBOUR: 'it returns false'. Refute it at one input. -/
def roundTwiceWrong : ChangeSpec := { name := "roundTwice", fn := fun _ => fun
  | [d1, d2, d3, d4] => { results := [.lit (.bool false)], args := [d1, d2, d3, d4] }
  | _ => none }
def RoundTwiceWrongFalsely : Prop := roundTwiceRow.holds Tryd.pinned (OpenSpec.ofChange roundTwiceWrong)

/-- 'sluicewaylaw3.RoundExact': WHATEVER THE INPUT: true; the input reads as it did. -/
def roundExactSpec : ChangeSpec := { name := "roundExact", fn := fun _ => fun
  | [d1, d2, d3] => { results := [.lit (.bool true)], args := [d1, d2, d3] }
  | _ => none }
def roundExactRow : OpenClaim := { program := "yteodljieiloebaadoor", sum := "4e815b5b114c33063740736d7ef535a47040d9968443e34286b76855a44773d8", func := "sluiceway/sluicewaylaw3.RoundExact", spec := "roundExact", inPlace := ["math/bits.Add64", "math/bits.Sub64"], unfollowed := true, recurses := true, named := ["math/bits.deBruijn64tab", "math/bits.divideError", "math/bits.overflowError"], apart := false, laid := [("math/bits.deBruijn64tab", laid_math_bits_deBruijn64tab)] }
def RoundExactSaid : Prop := roundExactRow.holds Tryd.pinned (OpenSpec.ofChange roundExactSpec)

/-- ITS FALSE NEIGHBOUR: 'it returns false'. Refute it at one input. -/
def roundExactWrong : ChangeSpec := { name := "roundExact", fn := fun _ => fun
  | [d1, d2, d3] => { results := [.lit (.bool false)], args := [d1, d2, d3] }
  | _ => none }
def RoundExactWrongFalsely : Prop := roundExactRow.holds Tryd.pinned (OpenSpec.ofChange roundExactWrong)

/-- 'sluicewaylaw3.RoundNear': WHATEVER THE INPUT: true; the input reads as it did. -/
def roundNearSpec : ChangeSpec := { name := "roundNear", fn := fun _ => fun
  | [d1, d2, d3] => { results := [.lit (.bool true)], args := [d1, d2, d3] }
  | _ => none }
def roundNearRow : OpenClaim := { program := "yteodljieiloebaadoor", sum := "4e815b5b114c33063740736d7ef535a47040d9968443e34286b76855a44773d8", func := "sluiceway/sluicewaylaw3.RoundNear", spec := "roundNear", inPlace := ["math/bits.Add64", "math/bits.Sub64"], unfollowed := true, recurses := true, named := ["math/bits.deBruijn64tab", "math/bits.divideError", "math/bits.overflowError"], apart := false, laid := [("math/bits.deBruijn64tab", laid_math_bits_deBruijn64tab)] }
def RoundNearSaid : Prop := roundNearRow.holds Tryd.pinned (OpenSpec.ofChange roundNearSpec)

/-- ITS FALSE NEIGHBOUR: 'it returns false'. Refute it at one input. -/
def roundNearWrong : ChangeSpec := { name := "roundNear", fn := fun _ => fun
  | [d1, d2, d3] => { results := [.lit (.bool false)], args := [d1, d2, d3] }
  | _ => none }
def RoundNearWrongFalsely : Prop := roundNearRow.holds Tryd.pinned (OpenSpec.ofChange roundNearWrong)

/-- 'sluicewaylaw3.RoundBetween': WHATEVER THE INPUT: true; the input reads as it did. -/
def roundBetweenSpec : ChangeSpec := { name := "roundBetween", fn := fun _ => fun
  | [d1, d2] => { results := [.lit (.bool true)], args := [d1, d2] }
  | _ => none }
def roundBetweenRow : OpenClaim := { program := "yteodljieiloebaadoor", sum := "4e815b5b114c33063740736d7ef535a47040d9968443e34286b76855a44773d8", func := "sluiceway/sluicewaylaw3.RoundBetween", spec := "roundBetween", inPlace := ["math/bits.Add64", "math/bits.Sub64"], unfollowed := true, recurses := true, named := ["math/bits.deBruijn64tab", "math/bits.divideError", "math/bits.overflowError"], apart := false, laid := [("math/bits.deBruijn64tab", laid_math_bits_deBruijn64tab)] }
def RoundBetweenSaid : Prop := roundBetweenRow.holds Tryd.pinned (OpenSpec.ofChange roundBetweenSpec)

/-- ITS FALSE NEIGHBOUR: 'it returns false'. Refute it at one input. -/
def roundBetweenWrong : ChangeSpec := { name := "roundBetween", fn := fun _ => fun
  | [d1, d2] => { results := [.lit (.bool false)], args := [d1, d2] }
  | _ => none }
def RoundBetweenWrongFalsely : Prop := roundBetweenRow.holds Tryd.pinned (OpenSpec.ofChange roundBetweenWrong)

/-- 'sluicewaylaw3.RoundHolds': WHATEVER THE INPUT: true; the input reads as it did. -/
def roundHoldsSpec : ChangeSpec := { name := "roundHolds", fn := fun _ => fun
  | [d1, d2, d3] => { results := [.lit (.bool true)], args := [d1, d2, d3] }
  | _ => none }
def roundHoldsRow : OpenClaim := { program := "yteodljieiloebaadoor", sum := "4e815b5b114c33063740736d7ef535a47040d9968443e34286b76855a44773d8", func := "sluiceway/sluicewaylaw3.RoundHolds", spec := "roundHolds", inPlace := ["math/bits.Add64", "math/bits.Sub64"], unfollowed := true, recurses := true, named := ["math/bits.deBruijn64tab", "math/bits.divideError", "math/bits.overflowError"], apart := false, laid := [("math/bits.deBruijn64tab", laid_math_bits_deBruijn64tab)] }
def RoundHoldsSaid : Prop := roundHoldsRow.holds Tryd.pinned (OpenSpec.ofChange roundHoldsSpec)

/-- ITS FALSE NEIGHBOUR: 'it returns false'. Refute it at one input. -/
def roundHoldsWrong : ChangeSpec := { name := "roundHolds", fn := fun _ => fun
  | [d1, d2, d3] => { results := [.lit (.bool false)], args := [d1, d2, d3] }
  | _ => none }
def RoundHoldsWrongFalsely : Prop := roundHoldsRow.holds Tryd.pinned (OpenSpec.ofChange roundHoldsWrong)

/- THE SECOND FORM. 'bulk': how many values and letters a reading holds, each counted each time it is reached (what is shared counts as often as it is met; a slice's spare places count too). A statement '..UptoSaid' is the law's where the arguments, and the package variables that the reading takes, are together of bulk at most 1048576: NARROWER than '..Said'. Prove '..Said' where nothing that the law and all that it calls make is longer than what came in: it says more and counts as full. Else prove '..UptoSaid'. A law counts once. -/
mutual
def uptoBulk {H : Type} : DataW H → Nat
  | .lit (.string bytes) => bytes.length + 1
  | .lit _ => 1
  | .nil => 1
  | .ptr d => uptoBulk d + 1
  | .slice elems spare => uptoBulkAll elems + uptoBulkAll spare + 1
  | .agg parts => uptoBulkAll parts + 1
  | .iface _ d => uptoBulk d + 1
  | .map entries => uptoBulkEntries entries + 1
  | .held _ => 1
def uptoBulkAll {H : Type} : List (DataW H) → Nat
  | [] => 0
  | d :: r => uptoBulk d + uptoBulkAll r
def uptoBulkEntries {H : Type} : List (Lit × DataW H) → Nat
  | [] => 0
  | x :: r => uptoBulkEntry x + uptoBulkEntries r
def uptoBulkEntry {H : Type} : Lit × DataW H → Nat
  | (.string bytes, d) => bytes.length + uptoBulk d + 1
  | (_, d) => uptoBulk d + 1
 end
def uptoSmall : (H : Type) → List (DataW H) → Bool := fun _ ds => decide (uptoBulkAll ds ≤ 1048576)
def OpenSpec.upto (s : _root_.Go.ChangeSpec) : _root_.Go.OpenSpec := { _root_.Go.OpenSpec.ofChange s with cond := some uptoSmall }

/-- 'sluicewaylaw5.IvalMany', WHERE WHAT IT READS IS OF BULK AT MOST 1048576: true; the input reads as it did. -/
def ivalManyUptoRow : OpenClaim := { program := "yteodljieiloebaadoor", sum := "4e815b5b114c33063740736d7ef535a47040d9968443e34286b76855a44773d8", func := "sluiceway/sluicewaylaw5.IvalMany", spec := "ivalMany", inPlace := ["math/bits.Add64", "math/bits.Sub64"], unfollowed := true, recurses := true, named := ["math/bits.deBruijn64tab"], apart := false, laid := [("math/bits.deBruijn64tab", laid_math_bits_deBruijn64tab)], narrowed := true }
def IvalManyUptoSaid : Prop := ivalManyUptoRow.holds Tryd.pinned (OpenSpec.upto ivalManySpec)

/-- 'sluicewaylaw5.IvalRounds', WHERE WHAT IT READS IS OF BULK AT MOST 1048576: true; the input reads as it did. -/
def ivalRoundsUptoRow : OpenClaim := { program := "yteodljieiloebaadoor", sum := "4e815b5b114c33063740736d7ef535a47040d9968443e34286b76855a44773d8", func := "sluiceway/sluicewaylaw5.IvalRounds", spec := "ivalRounds", inPlace := ["math/bits.Add64", "math/bits.Sub64"], unfollowed := true, recurses := true, named := ["math/bits.deBruijn64tab"], apart := false, laid := [("math/bits.deBruijn64tab", laid_math_bits_deBruijn64tab)], narrowed := true }
def IvalRoundsUptoSaid : Prop := ivalRoundsUptoRow.holds Tryd.pinned (OpenSpec.upto ivalRoundsSpec)

/-- 'sluicewaylaw3.RoundAsks', WHERE WHAT IT READS IS OF BULK AT MOST 1048576: true; the input reads as it did. -/
def roundAsksUptoRow : OpenClaim := { program := "yteodljieiloebaadoor", sum := "4e815b5b114c33063740736d7ef535a47040d9968443e34286b76855a44773d8", func := "sluiceway/sluicewaylaw3.RoundAsks", spec := "roundAsks", inPlace := ["math/bits.Add64", "math/bits.Sub64"], unfollowed := true, recurses := true, named := ["math/bits.deBruijn64tab", "math/bits.divideError", "math/bits.overflowError"], apart := false, laid := [("math/bits.deBruijn64tab", laid_math_bits_deBruijn64tab)], narrowed := true }
def RoundAsksUptoSaid : Prop := roundAsksUptoRow.holds Tryd.pinned (OpenSpec.upto roundAsksSpec)

/-- 'sluicewaylaw3.RoundQuot', WHERE WHAT IT READS IS OF BULK AT MOST 1048576: true; the input reads as it did. -/
def roundQuotUptoRow : OpenClaim := { program := "yteodljieiloebaadoor", sum := "4e815b5b114c33063740736d7ef535a47040d9968443e34286b76855a44773d8", func := "sluiceway/sluicewaylaw3.RoundQuot", spec := "roundQuot", inPlace := ["math/bits.Add64", "math/bits.Sub64"], unfollowed := true, recurses := true, named := ["math/bits.deBruijn64tab", "math/bits.divideError", "math/bits.overflowError"], apart := false, laid := [("math/bits.deBruijn64tab", laid_math_bits_deBruijn64tab)], narrowed := true }
def RoundQuotUptoSaid : Prop := roundQuotUptoRow.holds Tryd.pinned (OpenSpec.upto roundQuotSpec)

/-- 'sluicewaylaw3.RoundRoot', WHERE WHAT IT READS IS OF BULK AT MOST 1048576: true; the input reads as it did. -/
def roundRootUptoRow : OpenClaim := { program := "yteodljieiloebaadoor", sum := "4e815b5b114c33063740736d7ef535a47040d9968443e34286b76855a44773d8", func := "sluiceway/sluicewaylaw3.RoundRoot", spec := "roundRoot", inPlace := ["math/bits.Add64", "math/bits.Sub64"], unfollowed := true, recurses := true, named := ["math/bits.deBruijn64tab", "math/bits.divideError", "math/bits.overflowError"], apart := false, laid := [("math/bits.deBruijn64tab", laid_math_bits_deBruijn64tab)], narrowed := true }
def RoundRootUptoSaid : Prop := roundRootUptoRow.holds Tryd.pinned (OpenSpec.upto roundRootSpec)

/-- 'sluicewaylaw3.RoundTwice', WHERE WHAT IT READS IS OF BULK AT MOST 1048576: true; the input reads as it did. -/
def roundTwiceUptoRow : OpenClaim := { program := "yteodljieiloebaadoor", sum := "4e815b5b114c33063740736d7ef535a47040d9968443e34286b76855a44773d8", func := "sluiceway/sluicewaylaw3.RoundTwice", spec := "roundTwice", inPlace := ["math/bits.Add64", "math/bits.Sub64"], unfollowed := true, recurses := true, named := ["math/bits.deBruijn64tab", "math/bits.divideError", "math/bits.overflowError"], apart := false, laid := [("math/bits.deBruijn64tab", laid_math_bits_deBruijn64tab)], narrowed := true }
def RoundTwiceUptoSaid : Prop := roundTwiceUptoRow.holds Tryd.pinned (OpenSpec.upto roundTwiceSpec)

/-- 'sluicewaylaw3.RoundExact', WHERE WHAT IT READS IS OF BULK AT MOST 1048576: true; the input reads as it did. -/
def roundExactUptoRow : OpenClaim := { program := "yteodljieiloebaadoor", sum := "4e815b5b114c33063740736d7ef535a47040d9968443e34286b76855a44773d8", func := "sluiceway/sluicewaylaw3.RoundExact", spec := "roundExact", inPlace := ["math/bits.Add64", "math/bits.Sub64"], unfollowed := true, recurses := true, named := ["math/bits.deBruijn64tab", "math/bits.divideError", "math/bits.overflowError"], apart := false, laid := [("math/bits.deBruijn64tab", laid_math_bits_deBruijn64tab)], narrowed := true }
def RoundExactUptoSaid : Prop := roundExactUptoRow.holds Tryd.pinned (OpenSpec.upto roundExactSpec)

/-- 'sluicewaylaw3.RoundNear', WHERE WHAT IT READS IS OF BULK AT MOST 1048576: true; the input reads as it did. -/
def roundNearUptoRow : OpenClaim := { program := "yteodljieiloebaadoor", sum := "4e815b5b114c33063740736d7ef535a47040d9968443e34286b76855a44773d8", func := "sluiceway/sluicewaylaw3.RoundNear", spec := "roundNear", inPlace := ["math/bits.Add64", "math/bits.Sub64"], unfollowed := true, recurses := true, named := ["math/bits.deBruijn64tab", "math/bits.divideError", "math/bits.overflowError"], apart := false, laid := [("math/bits.deBruijn64tab", laid_math_bits_deBruijn64tab)], narrowed := true }
def RoundNearUptoSaid : Prop := roundNearUptoRow.holds Tryd.pinned (OpenSpec.upto roundNearSpec)

/-- 'sluicewaylaw3.RoundBetween', WHERE WHAT IT READS IS OF BULK AT MOST 1048576: true; the input reads as it did. -/
def roundBetweenUptoRow : OpenClaim := { program := "yteodljieiloebaadoor", sum := "4e815b5b114c33063740736d7ef535a47040d9968443e34286b76855a44773d8", func := "sluiceway/sluicewaylaw3.RoundBetween", spec := "roundBetween", inPlace := ["math/bits.Add64", "math/bits.Sub64"], unfollowed := true, recurses := true, named := ["math/bits.deBruijn64tab", "math/bits.divideError", "math/bits.overflowError"], apart := false, laid := [("math/bits.deBruijn64tab", laid_math_bits_deBruijn64tab)], narrowed := true }
def RoundBetweenUptoSaid : Prop := roundBetweenUptoRow.holds Tryd.pinned (OpenSpec.upto roundBetweenSpec)

/-- 'sluicewaylaw3.RoundHolds', WHERE WHAT IT READS IS OF BULK AT MOST 1048576: true; the input reads as it did. -/
def roundHoldsUptoRow : OpenClaim := { program := "yteodljieiloebaadoor", sum := "4e815b5b114c33063740736d7ef535a47040d9968443e34286b76855a44773d8", func := "sluiceway/sluicewaylaw3.RoundHolds", spec := "roundHolds", inPlace := ["math/bits.Add64", "math/bits.Sub64"], unfollowed := true, recurses := true, named := ["math/bits.deBruijn64tab", "math/bits.divideError", "math/bits.overflowError"], apart := false, laid := [("math/bits.deBruijn64tab", laid_math_bits_deBruijn64tab)], narrowed := true }
def RoundHoldsUptoSaid : Prop := roundHoldsUptoRow.holds Tryd.pinned (OpenSpec.upto roundHoldsSpec)

end Rows
end Go.Proofs.YteodljieiloebaaDoor
