/-
  NARROWER THAN 'FOR EVERY INPUT', by the rows' own cells (each row's printed sentence says how): DyadNorm: laid · DyadAsks: laid · DyadRing: laid · DyadFar: laid · DyadOnes: laid · DyadOrder: laid · IvalMany: laid · IvalAsks: laid · IvalSets: laid · IvalRounds: laid.
  DERIVED. THE GIVEN ROWS OF THIS SEAT. 10 by the template 'for every input the law returns true; each argument reads behind the call as it read before'; 0 by the template 'total and deterministic' (their statements: YtaifjldpjkabjaaDoorTotals.lean).
  GIVEN WITH THE SEED: the statements are not yours to turn. If you find one false, say at which input.
  Laid BY PROGRAM, IN A SANDBOX (cutbox-rows.mjs): the forced cells as the released guide's own fill.sh prints them over the translation 83a92ae057d7b876… (all of the seat's roots in one cut). By AI agents, Wed Nov 11 2026. No macro, syntax, notation, axiom, sorry.
-/
import Derived.Test.YtaifjldpjkabjaaDoorChecked
import GoSem.Claim
import GoSem.ClaimJoined
import GoSem.ClaimMapViews
import Derived.JoinedTies
import Derived.KernelRfl
namespace Go.Proofs.YtaifjldpjkabjaaDoor
/- THE CELL 'sum', in the pinned program and in every row, IS THE sha256 OF THE DUMP (.gsa) THAT YtaifjldpjkabjaaDoorProg.lean LOADS. Nothing in Lean hashes anything: it is a label: what it is worth is what the hold of that sum in a sandbox is worth. -/
noncomputable def Tryd.pinned : Pinned := { name := "ytaifjldpjkabjaadoor", sum := "83a92ae057d7b876e3353663bfb79a9a27b6c55f275d56236d1acd207d5dbc85", checked := Tryd.checked }
namespace Rows
def none {H : Type} : Left H := { results := [], args := [] }

/- WHAT THE LISTED PACKAGE-LEVEL VARIABLES READ AS WHEN THE CALL BEGINS. Each datum BY PROGRAM (the guide's laid-datum.mjs) off the statement by which the dump's own 'gosem.cut.vars' lays the variable. In a bare row this is a premise. The card (YtaifjldpjkabjaaDoorCards.lean) ties it to the program's text. -/
def laid_math_bits_deBruijn64tab {H : Type} : DataW H := .agg [.lit (.int .u8 0), .lit (.int .u8 1), .lit (.int .u8 56), .lit (.int .u8 2), .lit (.int .u8 57), .lit (.int .u8 49), .lit (.int .u8 28), .lit (.int .u8 3), .lit (.int .u8 61), .lit (.int .u8 58), .lit (.int .u8 42), .lit (.int .u8 50), .lit (.int .u8 38), .lit (.int .u8 29), .lit (.int .u8 17), .lit (.int .u8 4), .lit (.int .u8 62), .lit (.int .u8 47), .lit (.int .u8 59), .lit (.int .u8 36), .lit (.int .u8 45), .lit (.int .u8 43), .lit (.int .u8 51), .lit (.int .u8 22), .lit (.int .u8 53), .lit (.int .u8 39), .lit (.int .u8 33), .lit (.int .u8 30), .lit (.int .u8 24), .lit (.int .u8 18), .lit (.int .u8 12), .lit (.int .u8 5), .lit (.int .u8 63), .lit (.int .u8 55), .lit (.int .u8 48), .lit (.int .u8 27), .lit (.int .u8 60), .lit (.int .u8 41), .lit (.int .u8 37), .lit (.int .u8 16), .lit (.int .u8 46), .lit (.int .u8 35), .lit (.int .u8 44), .lit (.int .u8 21), .lit (.int .u8 52), .lit (.int .u8 32), .lit (.int .u8 23), .lit (.int .u8 11), .lit (.int .u8 54), .lit (.int .u8 26), .lit (.int .u8 40), .lit (.int .u8 15), .lit (.int .u8 34), .lit (.int .u8 20), .lit (.int .u8 31), .lit (.int .u8 10), .lit (.int .u8 25), .lit (.int .u8 14), .lit (.int .u8 19), .lit (.int .u8 9), .lit (.int .u8 13), .lit (.int .u8 8), .lit (.int .u8 7), .lit (.int .u8 6)]

/-- 'sluicewaylaw2.DyadNorm': WHATEVER THE INPUT: true; the input reads as it did. -/
def dyadNormSpec : ChangeSpec := { name := "dyadNorm", fn := fun _ => fun
  | [d1, d2, d3, d4, d5, d6] => { results := [.lit (.bool true)], args := [d1, d2, d3, d4, d5, d6] }
  | _ => none }
def dyadNormRow : OpenClaim := { program := "ytaifjldpjkabjaadoor", sum := "83a92ae057d7b876e3353663bfb79a9a27b6c55f275d56236d1acd207d5dbc85", func := "sluiceway/sluicewaylaw2.DyadNorm", spec := "dyadNorm", inPlace := ["math/bits.Add64", "math/bits.Sub64"], unfollowed := true, recurses := true, named := ["math/bits.deBruijn64tab"], apart := false, laid := [("math/bits.deBruijn64tab", laid_math_bits_deBruijn64tab)] }
def DyadNormSaid : Prop := dyadNormRow.holds Tryd.pinned (OpenSpec.ofChange dyadNormSpec)

/-- ITS FALSE NEIGHBOUR: 'it returns false'. Refute it at one input. -/
def dyadNormWrong : ChangeSpec := { name := "dyadNorm", fn := fun _ => fun
  | [d1, d2, d3, d4, d5, d6] => { results := [.lit (.bool false)], args := [d1, d2, d3, d4, d5, d6] }
  | _ => none }
def DyadNormWrongFalsely : Prop := dyadNormRow.holds Tryd.pinned (OpenSpec.ofChange dyadNormWrong)

/-- 'sluicewaylaw2.DyadAsks': WHATEVER THE INPUT: true; the input reads as it did. -/
def dyadAsksSpec : ChangeSpec := { name := "dyadAsks", fn := fun _ => fun
  | [d1, d2] => { results := [.lit (.bool true)], args := [d1, d2] }
  | _ => none }
def dyadAsksRow : OpenClaim := { program := "ytaifjldpjkabjaadoor", sum := "83a92ae057d7b876e3353663bfb79a9a27b6c55f275d56236d1acd207d5dbc85", func := "sluiceway/sluicewaylaw2.DyadAsks", spec := "dyadAsks", inPlace := ["math/bits.Add64", "math/bits.Sub64"], unfollowed := true, recurses := true, named := ["math/bits.deBruijn64tab"], apart := false, laid := [("math/bits.deBruijn64tab", laid_math_bits_deBruijn64tab)] }
def DyadAsksSaid : Prop := dyadAsksRow.holds Tryd.pinned (OpenSpec.ofChange dyadAsksSpec)

/-- ITS FALSE NEIGHBOUR: 'it returns false'. Refute it at one input. -/
def dyadAsksWrong : ChangeSpec := { name := "dyadAsks", fn := fun _ => fun
  | [d1, d2] => { results := [.lit (.bool false)], args := [d1, d2] }
  | _ => none }
def DyadAsksWrongFalsely : Prop := dyadAsksRow.holds Tryd.pinned (OpenSpec.ofChange dyadAsksWrong)

/-- 'sluicewaylaw2.DyadRing': WHATEVER THE INPUT: true; the input reads as it did. -/
def dyadRingSpec : ChangeSpec := { name := "dyadRing", fn := fun _ => fun
  | [d1, d2, d3] => { results := [.lit (.bool true)], args := [d1, d2, d3] }
  | _ => none }
def dyadRingRow : OpenClaim := { program := "ytaifjldpjkabjaadoor", sum := "83a92ae057d7b876e3353663bfb79a9a27b6c55f275d56236d1acd207d5dbc85", func := "sluiceway/sluicewaylaw2.DyadRing", spec := "dyadRing", inPlace := ["math/bits.Add64", "math/bits.Sub64"], unfollowed := true, recurses := true, named := ["math/bits.deBruijn64tab"], apart := false, laid := [("math/bits.deBruijn64tab", laid_math_bits_deBruijn64tab)] }
def DyadRingSaid : Prop := dyadRingRow.holds Tryd.pinned (OpenSpec.ofChange dyadRingSpec)

/-- ITS FALSE NEIGHBOUR: 'it returns false'. Refute it at one input. -/
def dyadRingWrong : ChangeSpec := { name := "dyadRing", fn := fun _ => fun
  | [d1, d2, d3] => { results := [.lit (.bool false)], args := [d1, d2, d3] }
  | _ => none }
def DyadRingWrongFalsely : Prop := dyadRingRow.holds Tryd.pinned (OpenSpec.ofChange dyadRingWrong)

/-- 'sluicewaylaw2.DyadFar': WHATEVER THE INPUT: true; the input reads as it did. -/
def dyadFarSpec : ChangeSpec := { name := "dyadFar", fn := fun _ => fun
  | [d1, d2, d3] => { results := [.lit (.bool true)], args := [d1, d2, d3] }
  | _ => none }
def dyadFarRow : OpenClaim := { program := "ytaifjldpjkabjaadoor", sum := "83a92ae057d7b876e3353663bfb79a9a27b6c55f275d56236d1acd207d5dbc85", func := "sluiceway/sluicewaylaw2.DyadFar", spec := "dyadFar", inPlace := ["math/bits.Add64", "math/bits.Sub64"], unfollowed := true, recurses := true, named := ["math/bits.deBruijn64tab"], apart := false, laid := [("math/bits.deBruijn64tab", laid_math_bits_deBruijn64tab)] }
def DyadFarSaid : Prop := dyadFarRow.holds Tryd.pinned (OpenSpec.ofChange dyadFarSpec)

/-- ITS FALSE NEIGHBOUR: 'it returns false'. Refute it at one input. -/
def dyadFarWrong : ChangeSpec := { name := "dyadFar", fn := fun _ => fun
  | [d1, d2, d3] => { results := [.lit (.bool false)], args := [d1, d2, d3] }
  | _ => none }
def DyadFarWrongFalsely : Prop := dyadFarRow.holds Tryd.pinned (OpenSpec.ofChange dyadFarWrong)

/-- 'sluicewaylaw2.DyadOnes': WHATEVER THE INPUT: true; the input reads as it did. -/
def dyadOnesSpec : ChangeSpec := { name := "dyadOnes", fn := fun _ => fun
  | [d1, d2] => { results := [.lit (.bool true)], args := [d1, d2] }
  | _ => none }
def dyadOnesRow : OpenClaim := { program := "ytaifjldpjkabjaadoor", sum := "83a92ae057d7b876e3353663bfb79a9a27b6c55f275d56236d1acd207d5dbc85", func := "sluiceway/sluicewaylaw2.DyadOnes", spec := "dyadOnes", inPlace := ["math/bits.Add64", "math/bits.Sub64"], unfollowed := true, recurses := true, named := ["math/bits.deBruijn64tab"], apart := false, laid := [("math/bits.deBruijn64tab", laid_math_bits_deBruijn64tab)] }
def DyadOnesSaid : Prop := dyadOnesRow.holds Tryd.pinned (OpenSpec.ofChange dyadOnesSpec)

/-- ITS FALSE NEIGHBOUR: 'it returns false'. Refute it at one input. -/
def dyadOnesWrong : ChangeSpec := { name := "dyadOnes", fn := fun _ => fun
  | [d1, d2] => { results := [.lit (.bool false)], args := [d1, d2] }
  | _ => none }
def DyadOnesWrongFalsely : Prop := dyadOnesRow.holds Tryd.pinned (OpenSpec.ofChange dyadOnesWrong)

/-- 'sluicewaylaw2.DyadOrder': WHATEVER THE INPUT: true; the input reads as it did. -/
def dyadOrderSpec : ChangeSpec := { name := "dyadOrder", fn := fun _ => fun
  | [d1, d2, d3] => { results := [.lit (.bool true)], args := [d1, d2, d3] }
  | _ => none }
def dyadOrderRow : OpenClaim := { program := "ytaifjldpjkabjaadoor", sum := "83a92ae057d7b876e3353663bfb79a9a27b6c55f275d56236d1acd207d5dbc85", func := "sluiceway/sluicewaylaw2.DyadOrder", spec := "dyadOrder", inPlace := ["math/bits.Add64", "math/bits.Sub64"], unfollowed := true, recurses := true, named := ["math/bits.deBruijn64tab"], apart := false, laid := [("math/bits.deBruijn64tab", laid_math_bits_deBruijn64tab)] }
def DyadOrderSaid : Prop := dyadOrderRow.holds Tryd.pinned (OpenSpec.ofChange dyadOrderSpec)

/-- ITS FALSE NEIGHBOUR: 'it returns false'. Refute it at one input. -/
def dyadOrderWrong : ChangeSpec := { name := "dyadOrder", fn := fun _ => fun
  | [d1, d2, d3] => { results := [.lit (.bool false)], args := [d1, d2, d3] }
  | _ => none }
def DyadOrderWrongFalsely : Prop := dyadOrderRow.holds Tryd.pinned (OpenSpec.ofChange dyadOrderWrong)

/-- 'sluicewaylaw5.IvalMany': WHATEVER THE INPUT: true; the input reads as it did. -/
def ivalManySpec : ChangeSpec := { name := "ivalMany", fn := fun _ => fun
  | [d] => { results := [.lit (.bool true)], args := [d] }
  | _ => none }
def ivalManyRow : OpenClaim := { program := "ytaifjldpjkabjaadoor", sum := "83a92ae057d7b876e3353663bfb79a9a27b6c55f275d56236d1acd207d5dbc85", func := "sluiceway/sluicewaylaw5.IvalMany", spec := "ivalMany", inPlace := ["math/bits.Add64", "math/bits.Sub64"], unfollowed := true, recurses := true, named := ["math/bits.deBruijn64tab"], apart := false, laid := [("math/bits.deBruijn64tab", laid_math_bits_deBruijn64tab)] }
def IvalManySaid : Prop := ivalManyRow.holds Tryd.pinned (OpenSpec.ofChange ivalManySpec)

/-- ITS FALSE NEIGHBOUR: 'it returns false'. Refute it at one input. -/
def ivalManyWrong : ChangeSpec := { name := "ivalMany", fn := fun _ => fun
  | [d] => { results := [.lit (.bool false)], args := [d] }
  | _ => none }
def IvalManyWrongFalsely : Prop := ivalManyRow.holds Tryd.pinned (OpenSpec.ofChange ivalManyWrong)

/-- 'sluicewaylaw5.IvalAsks': WHATEVER THE INPUT: true; the input reads as it did. -/
def ivalAsksSpec : ChangeSpec := { name := "ivalAsks", fn := fun _ => fun
  | [d1, d2, d3] => { results := [.lit (.bool true)], args := [d1, d2, d3] }
  | _ => none }
def ivalAsksRow : OpenClaim := { program := "ytaifjldpjkabjaadoor", sum := "83a92ae057d7b876e3353663bfb79a9a27b6c55f275d56236d1acd207d5dbc85", func := "sluiceway/sluicewaylaw5.IvalAsks", spec := "ivalAsks", inPlace := ["math/bits.Add64", "math/bits.Sub64"], unfollowed := true, recurses := true, named := ["math/bits.deBruijn64tab"], apart := false, laid := [("math/bits.deBruijn64tab", laid_math_bits_deBruijn64tab)] }
def IvalAsksSaid : Prop := ivalAsksRow.holds Tryd.pinned (OpenSpec.ofChange ivalAsksSpec)

/-- ITS FALSE NEIGHBOUR: 'it returns false'. Refute it at one input. -/
def ivalAsksWrong : ChangeSpec := { name := "ivalAsks", fn := fun _ => fun
  | [d1, d2, d3] => { results := [.lit (.bool false)], args := [d1, d2, d3] }
  | _ => none }
def IvalAsksWrongFalsely : Prop := ivalAsksRow.holds Tryd.pinned (OpenSpec.ofChange ivalAsksWrong)

/-- 'sluicewaylaw5.IvalSets': WHATEVER THE INPUT: true; the input reads as it did. -/
def ivalSetsSpec : ChangeSpec := { name := "ivalSets", fn := fun _ => fun
  | [d1, d2, d3] => { results := [.lit (.bool true)], args := [d1, d2, d3] }
  | _ => none }
def ivalSetsRow : OpenClaim := { program := "ytaifjldpjkabjaadoor", sum := "83a92ae057d7b876e3353663bfb79a9a27b6c55f275d56236d1acd207d5dbc85", func := "sluiceway/sluicewaylaw5.IvalSets", spec := "ivalSets", inPlace := ["math/bits.Add64", "math/bits.Sub64"], unfollowed := true, recurses := true, named := ["math/bits.deBruijn64tab"], apart := false, laid := [("math/bits.deBruijn64tab", laid_math_bits_deBruijn64tab)] }
def IvalSetsSaid : Prop := ivalSetsRow.holds Tryd.pinned (OpenSpec.ofChange ivalSetsSpec)

/-- ITS FALSE NEIGHBOUR: 'it returns false'. Refute it at one input. -/
def ivalSetsWrong : ChangeSpec := { name := "ivalSets", fn := fun _ => fun
  | [d1, d2, d3] => { results := [.lit (.bool false)], args := [d1, d2, d3] }
  | _ => none }
def IvalSetsWrongFalsely : Prop := ivalSetsRow.holds Tryd.pinned (OpenSpec.ofChange ivalSetsWrong)

/-- 'sluicewaylaw5.IvalRounds': WHATEVER THE INPUT: true; the input reads as it did. -/
def ivalRoundsSpec : ChangeSpec := { name := "ivalRounds", fn := fun _ => fun
  | [d1, d2, d3] => { results := [.lit (.bool true)], args := [d1, d2, d3] }
  | _ => none }
def ivalRoundsRow : OpenClaim := { program := "ytaifjldpjkabjaadoor", sum := "83a92ae057d7b876e3353663bfb79a9a27b6c55f275d56236d1acd207d5dbc85", func := "sluiceway/sluicewaylaw5.IvalRounds", spec := "ivalRounds", inPlace := ["math/bits.Add64", "math/bits.Sub64"], unfollowed := true, recurses := true, named := ["math/bits.deBruijn64tab"], apart := false, laid := [("math/bits.deBruijn64tab", laid_math_bits_deBruijn64tab)] }
def IvalRoundsSaid : Prop := ivalRoundsRow.holds Tryd.pinned (OpenSpec.ofChange ivalRoundsSpec)

/-- ITS FALSE NEIGHBOUR: 'it returns false'. Refute it at one input. -/
def ivalRoundsWrong : ChangeSpec := { name := "ivalRounds", fn := fun _ => fun
  | [d1, d2, d3] => { results := [.lit (.bool false)], args := [d1, d2, d3] }
  | _ => none }
def IvalRoundsWrongFalsely : Prop := ivalRoundsRow.holds Tryd.pinned (OpenSpec.ofChange ivalRoundsWrong)

/- THE SECOND FORM. 'bulk': how many values and letters a reading holds, each counted each time it is reached (what is shared counts as often as it is met; a slice's spare places count too). A statement '..UptoSaid' is the law's where the arguments, and the package variables that the reading takes, are together of bulk at most 1048576: NARROWER than '..Said'. Prove '..Said' where nothing that the law and all that it calls make is longer than what came in: it says more and counts as full. Else prove '..UptoSaid'. A law counts once. -/
mutual
def uptoBulk {H : Type} : DataW H → Nat
  | .lit (.string bytes) => bytes.length + 1
  | .lit _ => 1
  | .nil => 1
  | .ptr d => uptoBulk d + 1
  | .slice elems spare => uptoBulkAll elems + uptoBulkAll spare + 1
  | .agg parts => uptoBulkAll parts + 1
  | .iface _ d => uptoBulk d + 1
  | .map entries => uptoBulkEntries entries + 1
  | .held _ => 1
def uptoBulkAll {H : Type} : List (DataW H) → Nat
  | [] => 0
  | d :: r => uptoBulk d + uptoBulkAll r
def uptoBulkEntries {H : Type} : List (Lit × DataW H) → Nat
  | [] => 0
  | x :: r => uptoBulkEntry x + uptoBulkEntries r
def uptoBulkEntry {H : Type} : Lit × DataW H → Nat
  | (.string bytes, d) => bytes.length + uptoBulk d + 1
  | (_, d) => uptoBulk d + 1
 end
def uptoSmall : (H : Type) → List (DataW H) → Bool := fun _ ds => decide (uptoBulkAll ds ≤ 1048576)
def OpenSpec.upto (s : _root_.Go.ChangeSpec) : _root_.Go.OpenSpec := { _root_.Go.OpenSpec.ofChange s with cond := some uptoSmall }

/-- 'sluicewaylaw2.DyadNorm', WHERE WHAT IT READS IS OF BULK AT MOST 1048576: true; the input reads as it did. -/
def dyadNormUptoRow : OpenClaim := { program := "ytaifjldpjkabjaadoor", sum := "83a92ae057d7b876e3353663bfb79a9a27b6c55f275d56236d1acd207d5dbc85", func := "sluiceway/sluicewaylaw2.DyadNorm", spec := "dyadNorm", inPlace := ["math/bits.Add64", "math/bits.Sub64"], unfollowed := true, recurses := true, named := ["math/bits.deBruijn64tab"], apart := false, laid := [("math/bits.deBruijn64tab", laid_math_bits_deBruijn64tab)], narrowed := true }
def DyadNormUptoSaid : Prop := dyadNormUptoRow.holds Tryd.pinned (OpenSpec.upto dyadNormSpec)

/-- 'sluicewaylaw2.DyadAsks', WHERE WHAT IT READS IS OF BULK AT MOST 1048576: true; the input reads as it did. -/
def dyadAsksUptoRow : OpenClaim := { program := "ytaifjldpjkabjaadoor", sum := "83a92ae057d7b876e3353663bfb79a9a27b6c55f275d56236d1acd207d5dbc85", func := "sluiceway/sluicewaylaw2.DyadAsks", spec := "dyadAsks", inPlace := ["math/bits.Add64", "math/bits.Sub64"], unfollowed := true, recurses := true, named := ["math/bits.deBruijn64tab"], apart := false, laid := [("math/bits.deBruijn64tab", laid_math_bits_deBruijn64tab)], narrowed := true }
def DyadAsksUptoSaid : Prop := dyadAsksUptoRow.holds Tryd.pinned (OpenSpec.upto dyadAsksSpec)

/-- 'sluicewaylaw2.DyadRing', WHERE WHAT IT READS IS OF BULK AT MOST 1048576: true; the input reads as it did. -/
def dyadRingUptoRow : OpenClaim := { program := "ytaifjldpjkabjaadoor", sum := "83a92ae057d7b876e3353663bfb79a9a27b6c55f275d56236d1acd207d5dbc85", func := "sluiceway/sluicewaylaw2.DyadRing", spec := "dyadRing", inPlace := ["math/bits.Add64", "math/bits.Sub64"], unfollowed := true, recurses := true, named := ["math/bits.deBruijn64tab"], apart := false, laid := [("math/bits.deBruijn64tab", laid_math_bits_deBruijn64tab)], narrowed := true }
def DyadRingUptoSaid : Prop := dyadRingUptoRow.holds Tryd.pinned (OpenSpec.upto dyadRingSpec)

/-- 'sluicewaylaw2.DyadFar', WHERE WHAT IT READS IS OF BULK AT MOST 1048576: true; the input reads as it did. -/
def dyadFarUptoRow : OpenClaim := { program := "ytaifjldpjkabjaadoor", sum := "83a92ae057d7b876e3353663bfb79a9a27b6c55f275d56236d1acd207d5dbc85", func := "sluiceway/sluicewaylaw2.DyadFar", spec := "dyadFar", inPlace := ["math/bits.Add64", "math/bits.Sub64"], unfollowed := true, recurses := true, named := ["math/bits.deBruijn64tab"], apart := false, laid := [("math/bits.deBruijn64tab", laid_math_bits_deBruijn64tab)], narrowed := true }
def DyadFarUptoSaid : Prop := dyadFarUptoRow.holds Tryd.pinned (OpenSpec.upto dyadFarSpec)

/-- 'sluicewaylaw2.DyadOnes', WHERE WHAT IT READS IS OF BULK AT MOST 1048576: true; the input reads as it did. -/
def dyadOnesUptoRow : OpenClaim := { program := "ytaifjldpjkabjaadoor", sum := "83a92ae057d7b876e3353663bfb79a9a27b6c55f275d56236d1acd207d5dbc85", func := "sluiceway/sluicewaylaw2.DyadOnes", spec := "dyadOnes", inPlace := ["math/bits.Add64", "math/bits.Sub64"], unfollowed := true, recurses := true, named := ["math/bits.deBruijn64tab"], apart := false, laid := [("math/bits.deBruijn64tab", laid_math_bits_deBruijn64tab)], narrowed := true }
def DyadOnesUptoSaid : Prop := dyadOnesUptoRow.holds Tryd.pinned (OpenSpec.upto dyadOnesSpec)

/-- 'sluicewaylaw2.DyadOrder', WHERE WHAT IT READS IS OF BULK AT MOST 1048576: true; the input reads as it did. -/
def dyadOrderUptoRow : OpenClaim := { program := "ytaifjldpjkabjaadoor", sum := "83a92ae057d7b876e3353663bfb79a9a27b6c55f275d56236d1acd207d5dbc85", func := "sluiceway/sluicewaylaw2.DyadOrder", spec := "dyadOrder", inPlace := ["math/bits.Add64", "math/bits.Sub64"], unfollowed := true, recurses := true, named := ["math/bits.deBruijn64tab"], apart := false, laid := [("math/bits.deBruijn64tab", laid_math_bits_deBruijn64tab)], narrowed := true }
def DyadOrderUptoSaid : Prop := dyadOrderUptoRow.holds Tryd.pinned (OpenSpec.upto dyadOrderSpec)

/-- 'sluicewaylaw5.IvalMany', WHERE WHAT IT READS IS OF BULK AT MOST 1048576: true; the input reads as it did. -/
def ivalManyUptoRow : OpenClaim := { program := "ytaifjldpjkabjaadoor", sum := "83a92ae057d7b876e3353663bfb79a9a27b6c55f275d56236d1acd207d5dbc85", func := "sluiceway/sluicewaylaw5.IvalMany", spec := "ivalMany", inPlace := ["math/bits.Add64", "math/bits.Sub64"], unfollowed := true, recurses := true, named := ["math/bits.deBruijn64tab"], apart := false, laid := [("math/bits.deBruijn64tab", laid_math_bits_deBruijn64tab)], narrowed := true }
def IvalManyUptoSaid : Prop := ivalManyUptoRow.holds Tryd.pinned (OpenSpec.upto ivalManySpec)

/-- 'sluicewaylaw5.IvalAsks', WHERE WHAT IT READS IS OF BULK AT MOST 1048576: true; the input reads as it did. -/
def ivalAsksUptoRow : OpenClaim := { program := "ytaifjldpjkabjaadoor", sum := "83a92ae057d7b876e3353663bfb79a9a27b6c55f275d56236d1acd207d5dbc85", func := "sluiceway/sluicewaylaw5.IvalAsks", spec := "ivalAsks", inPlace := ["math/bits.Add64", "math/bits.Sub64"], unfollowed := true, recurses := true, named := ["math/bits.deBruijn64tab"], apart := false, laid := [("math/bits.deBruijn64tab", laid_math_bits_deBruijn64tab)], narrowed := true }
def IvalAsksUptoSaid : Prop := ivalAsksUptoRow.holds Tryd.pinned (OpenSpec.upto ivalAsksSpec)

/-- 'sluicewaylaw5.IvalSets', WHERE WHAT IT READS IS OF BULK AT MOST 1048576: true; the input reads as it did. -/
def ivalSetsUptoRow : OpenClaim := { program := "ytaifjldpjkabjaadoor", sum := "83a92ae057d7b876e3353663bfb79a9a27b6c55f275d56236d1acd207d5dbc85", func := "sluiceway/sluicewaylaw5.IvalSets", spec := "ivalSets", inPlace := ["math/bits.Add64", "math/bits.Sub64"], unfollowed := true, recurses := true, named := ["math/bits.deBruijn64tab"], apart := false, laid := [("math/bits.deBruijn64tab", laid_math_bits_deBruijn64tab)], narrowed := true }
def IvalSetsUptoSaid : Prop := ivalSetsUptoRow.holds Tryd.pinned (OpenSpec.upto ivalSetsSpec)

/-- 'sluicewaylaw5.IvalRounds', WHERE WHAT IT READS IS OF BULK AT MOST 1048576: true; the input reads as it did. -/
def ivalRoundsUptoRow : OpenClaim := { program := "ytaifjldpjkabjaadoor", sum := "83a92ae057d7b876e3353663bfb79a9a27b6c55f275d56236d1acd207d5dbc85", func := "sluiceway/sluicewaylaw5.IvalRounds", spec := "ivalRounds", inPlace := ["math/bits.Add64", "math/bits.Sub64"], unfollowed := true, recurses := true, named := ["math/bits.deBruijn64tab"], apart := false, laid := [("math/bits.deBruijn64tab", laid_math_bits_deBruijn64tab)], narrowed := true }
def IvalRoundsUptoSaid : Prop := ivalRoundsUptoRow.holds Tryd.pinned (OpenSpec.upto ivalRoundsSpec)

end Rows
end Go.Proofs.YtaifjldpjkabjaaDoor
