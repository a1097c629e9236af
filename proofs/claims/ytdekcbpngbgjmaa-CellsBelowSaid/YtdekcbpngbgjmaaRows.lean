/-
  No cell of these rows narrows 'for every input' (looked for: loops, veiled, ifaces, maps, wideKeys, modest, calm, conditions, laid).
  DERIVED. THE GIVEN ROWS OF THIS SEAT. 4 by the template 'for every input the law returns true; each argument reads behind the call as it read before'; 0 by the template 'total and deterministic' (their statements: YtdekcbpngbgjmaaTotals.lean).
  GIVEN WITH THE SEED: the statements are not yours to turn. If you find one false, say at which input.
  Laid BY PROGRAM, IN A SANDBOX (cutbox-rows.mjs): the forced cells as the released guide's own fill.sh prints them over the translation c62976feb9ca8c86… (all of the seat's roots in one cut). By AI agents, Wed Nov 11 2026. No macro, syntax, notation, axiom, sorry.
-/
import Derived.Test.YtdekcbpngbgjmaaChecked
import GoSem.Claim
import GoSem.ClaimJoined
import GoSem.ClaimMapViews
import Derived.JoinedTies
import Derived.KernelRfl
namespace Go.Proofs.Ytdekcbpngbgjmaa
/- THE CELL 'sum', in the pinned program and in every row, IS THE sha256 OF THE DUMP (.gsa) THAT YtdekcbpngbgjmaaProg.lean LOADS. Nothing in Lean hashes anything: it is a label: what it is worth is what the hold of that sum in a sandbox is worth. -/
noncomputable def Try.pinned : Pinned := { name := "ytdekcbpngbgjmaa", sum := "c62976feb9ca8c8624ce9feab9dc3451112039e58b85da29ca2e6d188c9834f3", checked := Try.checked }
namespace Rows
def none {H : Type} : Left H := { results := [], args := [] }

/-- 'beadlelaw22.CellsLay': WHATEVER THE INPUT: true; the input reads as it did. -/
def cellsLaySpec : ChangeSpec := { name := "cellsLay", fn := fun _ => fun
  | [d] => { results := [.lit (.bool true)], args := [d] }
  | _ => none }
def cellsLayRow : OpenClaim := { program := "ytdekcbpngbgjmaa", sum := "c62976feb9ca8c8624ce9feab9dc3451112039e58b85da29ca2e6d188c9834f3", func := "beadle/beadlelaw22.CellsLay", spec := "cellsLay", apart := false }
def CellsLaySaid : Prop := cellsLayRow.holds Try.pinned (OpenSpec.ofChange cellsLaySpec)

/-- ITS FALSE NEIGHBOUR: 'it returns false'. Refute it at one input. -/
def cellsLayWrong : ChangeSpec := { name := "cellsLay", fn := fun _ => fun
  | [d] => { results := [.lit (.bool false)], args := [d] }
  | _ => none }
def CellsLayWrongFalsely : Prop := cellsLayRow.holds Try.pinned (OpenSpec.ofChange cellsLayWrong)

/-- 'beadlelaw22.CellsOnce': WHATEVER THE INPUT: true; the input reads as it did. -/
def cellsOnceSpec : ChangeSpec := { name := "cellsOnce", fn := fun _ => fun
  | [d] => { results := [.lit (.bool true)], args := [d] }
  | _ => none }
def cellsOnceRow : OpenClaim := { program := "ytdekcbpngbgjmaa", sum := "c62976feb9ca8c8624ce9feab9dc3451112039e58b85da29ca2e6d188c9834f3", func := "beadle/beadlelaw22.CellsOnce", spec := "cellsOnce", apart := false }
def CellsOnceSaid : Prop := cellsOnceRow.holds Try.pinned (OpenSpec.ofChange cellsOnceSpec)

/-- ITS FALSE NEIGHBOUR: 'it returns false'. Refute it at one input. -/
def cellsOnceWrong : ChangeSpec := { name := "cellsOnce", fn := fun _ => fun
  | [d] => { results := [.lit (.bool false)], args := [d] }
  | _ => none }
def CellsOnceWrongFalsely : Prop := cellsOnceRow.holds Try.pinned (OpenSpec.ofChange cellsOnceWrong)

/-- 'beadlelaw22.CellsPlain': WHATEVER THE INPUT: true; the input reads as it did. -/
def cellsPlainSpec : ChangeSpec := { name := "cellsPlain", fn := fun _ => fun
  | [d] => { results := [.lit (.bool true)], args := [d] }
  | _ => none }
def cellsPlainRow : OpenClaim := { program := "ytdekcbpngbgjmaa", sum := "c62976feb9ca8c8624ce9feab9dc3451112039e58b85da29ca2e6d188c9834f3", func := "beadle/beadlelaw22.CellsPlain", spec := "cellsPlain", apart := false }
def CellsPlainSaid : Prop := cellsPlainRow.holds Try.pinned (OpenSpec.ofChange cellsPlainSpec)

/-- ITS FALSE NEIGHBOUR: 'it returns false'. Refute it at one input. -/
def cellsPlainWrong : ChangeSpec := { name := "cellsPlain", fn := fun _ => fun
  | [d] => { results := [.lit (.bool false)], args := [d] }
  | _ => none }
def CellsPlainWrongFalsely : Prop := cellsPlainRow.holds Try.pinned (OpenSpec.ofChange cellsPlainWrong)

/-- 'beadlelaw22.CellsBelow': WHATEVER THE INPUT: true; the input reads as it did. -/
def cellsBelowSpec : ChangeSpec := { name := "cellsBelow", fn := fun _ => fun
  | [d1, d2] => { results := [.lit (.bool true)], args := [d1, d2] }
  | _ => none }
def cellsBelowRow : OpenClaim := { program := "ytdekcbpngbgjmaa", sum := "c62976feb9ca8c8624ce9feab9dc3451112039e58b85da29ca2e6d188c9834f3", func := "beadle/beadlelaw22.CellsBelow", spec := "cellsBelow", apart := false }
def CellsBelowSaid : Prop := cellsBelowRow.holds Try.pinned (OpenSpec.ofChange cellsBelowSpec)

/-- ITS FALSE NEIGHBOUR: 'it returns false'. Refute it at one input. -/
def cellsBelowWrong : ChangeSpec := { name := "cellsBelow", fn := fun _ => fun
  | [d1, d2] => { results := [.lit (.bool false)], args := [d1, d2] }
  | _ => none }
def CellsBelowWrongFalsely : Prop := cellsBelowRow.holds Try.pinned (OpenSpec.ofChange cellsBelowWrong)

/- THE SECOND FORM. 'bulk': how many values and letters a reading holds, each counted each time it is reached (what is shared counts as often as it is met; a slice's spare places count too). A statement '..UptoSaid' is the law's where the arguments, and the package variables that the reading takes, are together of bulk at most 1048576: NARROWER than '..Said'. Prove '..Said' where nothing that the law and all that it calls make is longer than what came in: it says more and counts as full. Else prove '..UptoSaid'. A law counts once. -/
mutual
def uptoBulk {H : Type} : DataW H → Nat
  | .lit (.string bytes) => bytes.length + 1
  | .lit _ => 1
  | .nil => 1
  | .ptr d => uptoBulk d + 1
  | .slice elems spare => uptoBulkAll elems + uptoBulkAll spare + 1
  | .agg parts => uptoBulkAll parts + 1
  | .iface _ d => uptoBulk d + 1
  | .map entries => uptoBulkEntries entries + 1
  | .held _ => 1
def uptoBulkAll {H : Type} : List (DataW H) → Nat
  | [] => 0
  | d :: r => uptoBulk d + uptoBulkAll r
def uptoBulkEntries {H : Type} : List (Lit × DataW H) → Nat
  | [] => 0
  | x :: r => uptoBulkEntry x + uptoBulkEntries r
def uptoBulkEntry {H : Type} : Lit × DataW H → Nat
  | (.string bytes, d) => bytes.length + uptoBulk d + 1
  | (_, d) => uptoBulk d + 1
 end
def uptoSmall : (H : Type) → List (DataW H) → Bool := fun _ ds => decide (uptoBulkAll ds ≤ 1048576)
def OpenSpec.upto (s : _root_.Go.ChangeSpec) : _root_.Go.OpenSpec := { _root_.Go.OpenSpec.ofChange s with cond := some uptoSmall }

/-- 'beadlelaw22.CellsLay', WHERE WHAT IT READS IS OF BULK AT MOST 1048576: true; the input reads as it did. -/
def cellsLayUptoRow : OpenClaim := { program := "ytdekcbpngbgjmaa", sum := "c62976feb9ca8c8624ce9feab9dc3451112039e58b85da29ca2e6d188c9834f3", func := "beadle/beadlelaw22.CellsLay", spec := "cellsLay", apart := false, narrowed := true }
def CellsLayUptoSaid : Prop := cellsLayUptoRow.holds Try.pinned (OpenSpec.upto cellsLaySpec)

/-- 'beadlelaw22.CellsOnce', WHERE WHAT IT READS IS OF BULK AT MOST 1048576: true; the input reads as it did. -/
def cellsOnceUptoRow : OpenClaim := { program := "ytdekcbpngbgjmaa", sum := "c62976feb9ca8c8624ce9feab9dc3451112039e58b85da29ca2e6d188c9834f3", func := "beadle/beadlelaw22.CellsOnce", spec := "cellsOnce", apart := false, narrowed := true }
def CellsOnceUptoSaid : Prop := cellsOnceUptoRow.holds Try.pinned (OpenSpec.upto cellsOnceSpec)

/-- 'beadlelaw22.CellsPlain', WHERE WHAT IT READS IS OF BULK AT MOST 1048576: true; the input reads as it did. -/
def cellsPlainUptoRow : OpenClaim := { program := "ytdekcbpngbgjmaa", sum := "c62976feb9ca8c8624ce9feab9dc3451112039e58b85da29ca2e6d188c9834f3", func := "beadle/beadlelaw22.CellsPlain", spec := "cellsPlain", apart := false, narrowed := true }
def CellsPlainUptoSaid : Prop := cellsPlainUptoRow.holds Try.pinned (OpenSpec.upto cellsPlainSpec)

/-- 'beadlelaw22.CellsBelow', WHERE WHAT IT READS IS OF BULK AT MOST 1048576: true; the input reads as it did. -/
def cellsBelowUptoRow : OpenClaim := { program := "ytdekcbpngbgjmaa", sum := "c62976feb9ca8c8624ce9feab9dc3451112039e58b85da29ca2e6d188c9834f3", func := "beadle/beadlelaw22.CellsBelow", spec := "cellsBelow", apart := false, narrowed := true }
def CellsBelowUptoSaid : Prop := cellsBelowUptoRow.holds Try.pinned (OpenSpec.upto cellsBelowSpec)

end Rows
end Go.Proofs.Ytdekcbpngbgjmaa
