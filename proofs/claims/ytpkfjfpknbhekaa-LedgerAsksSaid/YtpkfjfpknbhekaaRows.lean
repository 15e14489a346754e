/-
  No cell of these rows narrows 'for every input' (looked for: loops, veiled, ifaces, maps, wideKeys, modest, calm, conditions, laid).
  DERIVED. THE GIVEN ROWS OF THIS SEAT. 3 by the template 'for every input the law returns true; each argument reads behind the call as it read before'; 0 by the template 'total and deterministic' (their statements: YtpkfjfpknbhekaaTotals.lean).
  GIVEN WITH THE SEED: the statements are not yours to turn. If you find one false, say at which input.
  Laid BY PROGRAM, IN A SANDBOX (cutbox-rows.mjs): the forced cells as the released guide's own fill.sh prints them over the translation 4651bb17fbdcd1bb… (all of the seat's roots in one cut). By AI agents, Wed Nov 11 2026. No macro, syntax, notation, axiom, sorry.
-/
import Derived.Test.YtpkfjfpknbhekaaChecked
import GoSem.Claim
import GoSem.ClaimJoined
import GoSem.ClaimMapViews
import Derived.JoinedTies
import Derived.KernelRfl
namespace Go.Proofs.Ytpkfjfpknbhekaa
/- THE CELL 'sum', in the pinned program and in every row, IS THE sha256 OF THE DUMP (.gsa) THAT YtpkfjfpknbhekaaProg.lean LOADS. Nothing in Lean hashes anything: it is a label: what it is worth is what the hold of that sum in a sandbox is worth. -/
noncomputable def Try.pinned : Pinned := { name := "ytpkfjfpknbhekaa", sum := "4651bb17fbdcd1bbd7706153a5d2f70ea9c7ffff79b57a8120d13088caba8107", checked := Try.checked }
namespace Rows
def none {H : Type} : Left H := { results := [], args := [] }

/-- 'sluicewaylaw21.LedgerAsks': WHATEVER THE INPUT: true; the input reads as it did. -/
def ledgerAsksSpec : ChangeSpec := { name := "ledgerAsks", fn := fun _ => fun
  | [d1, d2, d3] => { results := [.lit (.bool true)], args := [d1, d2, d3] }
  | _ => none }
def ledgerAsksRow : OpenClaim := { program := "ytpkfjfpknbhekaa", sum := "4651bb17fbdcd1bbd7706153a5d2f70ea9c7ffff79b57a8120d13088caba8107", func := "sluiceway/sluicewaylaw21.LedgerAsks", spec := "ledgerAsks", unfollowed := true, recurses := true, apart := false }
def LedgerAsksSaid : Prop := ledgerAsksRow.holds Try.pinned (OpenSpec.ofChange ledgerAsksSpec)

/-- ITS FALSE NEIGHBOUR: 'it returns false'. Refute it at one input. -/
def ledgerAsksWrong : ChangeSpec := { name := "ledgerAsks", fn := fun _ => fun
  | [d1, d2, d3] => { results := [.lit (.bool false)], args := [d1, d2, d3] }
  | _ => none }
def LedgerAsksWrongFalsely : Prop := ledgerAsksRow.holds Try.pinned (OpenSpec.ofChange ledgerAsksWrong)

/-- 'sluicewaylaw21.LedgerBack': WHATEVER THE INPUT: true; the input reads as it did. -/
def ledgerBackSpec : ChangeSpec := { name := "ledgerBack", fn := fun _ => fun
  | [d1, d2, d3] => { results := [.lit (.bool true)], args := [d1, d2, d3] }
  | _ => none }
def ledgerBackRow : OpenClaim := { program := "ytpkfjfpknbhekaa", sum := "4651bb17fbdcd1bbd7706153a5d2f70ea9c7ffff79b57a8120d13088caba8107", func := "sluiceway/sluicewaylaw21.LedgerBack", spec := "ledgerBack", unfollowed := true, recurses := true, apart := false }
def LedgerBackSaid : Prop := ledgerBackRow.holds Try.pinned (OpenSpec.ofChange ledgerBackSpec)

/-- ITS FALSE NEIGHBOUR: 'it returns false'. Refute it at one input. -/
def ledgerBackWrong : ChangeSpec := { name := "ledgerBack", fn := fun _ => fun
  | [d1, d2, d3] => { results := [.lit (.bool false)], args := [d1, d2, d3] }
  | _ => none }
def LedgerBackWrongFalsely : Prop := ledgerBackRow.holds Try.pinned (OpenSpec.ofChange ledgerBackWrong)

/-- 'sluicewaylaw21.LedgerFront': WHATEVER THE INPUT: true; the input reads as it did. -/
def ledgerFrontSpec : ChangeSpec := { name := "ledgerFront", fn := fun _ => fun
  | [d1, d2, d3] => { results := [.lit (.bool true)], args := [d1, d2, d3] }
  | _ => none }
def ledgerFrontRow : OpenClaim := { program := "ytpkfjfpknbhekaa", sum := "4651bb17fbdcd1bbd7706153a5d2f70ea9c7ffff79b57a8120d13088caba8107", func := "sluiceway/sluicewaylaw21.LedgerFront", spec := "ledgerFront", unfollowed := true, recurses := true, apart := false }
def LedgerFrontSaid : Prop := ledgerFrontRow.holds Try.pinned (OpenSpec.ofChange ledgerFrontSpec)

/-- ITS FALSE NEIGHBOUR: 'it returns false'. Refute it at one input. -/
def ledgerFrontWrong : ChangeSpec := { name := "ledgerFront", fn := fun _ => fun
  | [d1, d2, d3] => { results := [.lit (.bool false)], args := [d1, d2, d3] }
  | _ => none }
def LedgerFrontWrongFalsely : Prop := ledgerFrontRow.holds Try.pinned (OpenSpec.ofChange ledgerFrontWrong)

/- THE SECOND FORM. 'bulk': how many values and letters a reading holds, each counted each time it is reached (what is shared counts as often as it is met; a slice's spare places count too). A statement '..UptoSaid' is the law's where the arguments, and the package variables that the reading takes, are together of bulk at most 1048576: NARROWER than '..Said'. Prove '..Said' where nothing that the law and all that it calls make is longer than what came in: it says more and counts as full. Else prove '..UptoSaid'. A law counts once. -/
mutual
def uptoBulk {H : Type} : DataW H → Nat
  | .lit (.string bytes) => bytes.length + 1
  | .lit _ => 1
  | .nil => 1
  | .ptr d => uptoBulk d + 1
  | .slice elems spare => uptoBulkAll elems + uptoBulkAll spare + 1
  | .agg parts => uptoBulkAll parts + 1
  | .iface _ d => uptoBulk d + 1
  | .map entries => uptoBulkEntries entries + 1
  | .held _ => 1
def uptoBulkAll {H : Type} : List (DataW H) → Nat
  | [] => 0
  | d :: r => uptoBulk d + uptoBulkAll r
def uptoBulkEntries {H : Type} : List (Lit × DataW H) → Nat
  | [] => 0
  | x :: r => uptoBulkEntry x + uptoBulkEntries r
def uptoBulkEntry {H : Type} : Lit × DataW H → Nat
  | (.string bytes, d) => bytes.length + uptoBulk d + 1
  | (_, d) => uptoBulk d + 1
 end
def uptoSmall : (H : Type) → List (DataW H) → Bool := fun _ ds => decide (uptoBulkAll ds ≤ 1048576)
def OpenSpec.upto (s : _root_.Go.ChangeSpec) : _root_.Go.OpenSpec := { _root_.Go.OpenSpec.ofChange s with cond := some uptoSmall }

/-- 'sluicewaylaw21.LedgerAsks', WHERE WHAT IT READS IS OF BULK AT MOST 1048576: true; the input reads as it did. -/
def ledgerAsksUptoRow : OpenClaim := { program := "ytpkfjfpknbhekaa", sum := "4651bb17fbdcd1bbd7706153a5d2f70ea9c7ffff79b57a8120d13088caba8107", func := "sluiceway/sluicewaylaw21.LedgerAsks", spec := "ledgerAsks", unfollowed := true, recurses := true, apart := false, narrowed := true }
def LedgerAsksUptoSaid : Prop := ledgerAsksUptoRow.holds Try.pinned (OpenSpec.upto ledgerAsksSpec)

/-- 'sluicewaylaw21.LedgerBack', WHERE WHAT IT READS IS OF BULK AT MOST 1048576: true; the input reads as it did. -/
def ledgerBackUptoRow : OpenClaim := { program := "ytpkfjfpknbhekaa", sum := "4651bb17fbdcd1bbd7706153a5d2f70ea9c7ffff79b57a8120d13088caba8107", func := "sluiceway/sluicewaylaw21.LedgerBack", spec := "ledgerBack", unfollowed := true, recurses := true, apart := false, narrowed := true }
def LedgerBackUptoSaid : Prop := ledgerBackUptoRow.holds Try.pinned (OpenSpec.upto ledgerBackSpec)

/-- 'sluicewaylaw21.LedgerFront', WHERE WHAT IT READS IS OF BULK AT MOST 1048576: true; the input reads as it did. -/
def ledgerFrontUptoRow : OpenClaim := { program := "ytpkfjfpknbhekaa", sum := "4651bb17fbdcd1bbd7706153a5d2f70ea9c7ffff79b57a8120d13088caba8107", func := "sluiceway/sluicewaylaw21.LedgerFront", spec := "ledgerFront", unfollowed := true, recurses := true, apart := false, narrowed := true }
def LedgerFrontUptoSaid : Prop := ledgerFrontUptoRow.holds Try.pinned (OpenSpec.upto ledgerFrontSpec)

end Rows
end Go.Proofs.Ytpkfjfpknbhekaa
