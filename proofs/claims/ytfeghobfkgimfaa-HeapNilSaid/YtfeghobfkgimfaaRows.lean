/-
  NARROWER THAN 'FOR EVERY INPUT', by the rows' own cells (each row's printed sentence says how): TreeMoved: loops.
  DERIVED. THE GIVEN ROWS OF THIS SEAT. 6 by the template 'for every input the law returns true; each argument reads behind the call as it read before'; 0 by the template 'total and deterministic' (their statements: YtfeghobfkgimfaaTotals.lean).
  GIVEN WITH THE SEED: the statements are not yours to turn. If you find one false, say at which input.
  Laid BY PROGRAM, IN A SANDBOX (cutbox-rows.mjs): the forced cells as the released guide's own fill.sh prints them over the translation 56505a7451078cb6… (all of the seat's roots in one cut). By AI agents, Wed Nov 11 2026. No macro, syntax, notation, axiom, sorry.
-/
import Derived.Test.YtfeghobfkgimfaaChecked
import GoSem.Claim
import GoSem.ClaimJoined
import GoSem.ClaimMapViews
import Derived.JoinedTies
import Derived.KernelRfl
namespace Go.Proofs.Ytfeghobfkgimfaa
/- THE CELL 'sum', in the pinned program and in every row, IS THE sha256 OF THE DUMP (.gsa) THAT YtfeghobfkgimfaaProg.lean LOADS. Nothing in Lean hashes anything: it is a label: what it is worth is what the hold of that sum in a sandbox is worth. -/
noncomputable def Try.pinned : Pinned := { name := "ytfeghobfkgimfaa", sum := "56505a7451078cb692c5bc895c8b30b9a51ade05c6c51b68dea25dea551d9ea2", checked := Try.checked }
namespace Rows
def none {H : Type} : Left H := { results := [], args := [] }

/-- 'hammocklaw22.CheckSizes': WHATEVER THE INPUT: true; the input reads as it did. -/
def checkSizesSpec : ChangeSpec := { name := "checkSizes", fn := fun _ => fun
  | [d] => { results := [.lit (.bool true)], args := [d] }
  | _ => none }
def checkSizesRow : OpenClaim := { program := "ytfeghobfkgimfaa", sum := "56505a7451078cb692c5bc895c8b30b9a51ade05c6c51b68dea25dea551d9ea2", func := "hammock/hammocklaw22.CheckSizes", spec := "checkSizes", unfollowed := true, recurses := true, apart := false }
def CheckSizesSaid : Prop := checkSizesRow.holds Try.pinned (OpenSpec.ofChange checkSizesSpec)

/-- ITS FALSE NEIGHBOUR: 'it returns false'. Refute it at one input. -/
def checkSizesWrong : ChangeSpec := { name := "checkSizes", fn := fun _ => fun
  | [d] => { results := [.lit (.bool false)], args := [d] }
  | _ => none }
def CheckSizesWrongFalsely : Prop := checkSizesRow.holds Try.pinned (OpenSpec.ofChange checkSizesWrong)

/-- 'hammocklaw22.CheckMoved': WHATEVER THE INPUT: true; the input reads as it did. -/
def checkMovedSpec : ChangeSpec := { name := "checkMoved", fn := fun _ => fun
  | [d1, d2] => { results := [.lit (.bool true)], args := [d1, d2] }
  | _ => none }
def checkMovedRow : OpenClaim := { program := "ytfeghobfkgimfaa", sum := "56505a7451078cb692c5bc895c8b30b9a51ade05c6c51b68dea25dea551d9ea2", func := "hammock/hammocklaw22.CheckMoved", spec := "checkMoved", unfollowed := true, recurses := true, apart := false }
def CheckMovedSaid : Prop := checkMovedRow.holds Try.pinned (OpenSpec.ofChange checkMovedSpec)

/-- ITS FALSE NEIGHBOUR: 'it returns false'. Refute it at one input. -/
def checkMovedWrong : ChangeSpec := { name := "checkMoved", fn := fun _ => fun
  | [d1, d2] => { results := [.lit (.bool false)], args := [d1, d2] }
  | _ => none }
def CheckMovedWrongFalsely : Prop := checkMovedRow.holds Try.pinned (OpenSpec.ofChange checkMovedWrong)

/-- 'hammocklaw23.HeapFull': WHATEVER THE INPUT: true; the input reads as it did. -/
def heapFullSpec : ChangeSpec := { name := "heapFull", fn := fun _ => fun
  | [d1, d2] => { results := [.lit (.bool true)], args := [d1, d2] }
  | _ => none }
def heapFullRow : OpenClaim := { program := "ytfeghobfkgimfaa", sum := "56505a7451078cb692c5bc895c8b30b9a51ade05c6c51b68dea25dea551d9ea2", func := "hammock/hammocklaw23.HeapFull", spec := "heapFull", unfollowed := true, recurses := true, apart := false }
def HeapFullSaid : Prop := heapFullRow.holds Try.pinned (OpenSpec.ofChange heapFullSpec)

/-- ITS FALSE NEIGHBOUR: 'it returns false'. Refute it at one input. -/
def heapFullWrong : ChangeSpec := { name := "heapFull", fn := fun _ => fun
  | [d1, d2] => { results := [.lit (.bool false)], args := [d1, d2] }
  | _ => none }
def HeapFullWrongFalsely : Prop := heapFullRow.holds Try.pinned (OpenSpec.ofChange heapFullWrong)

/-- 'hammocklaw23.HeapSame': WHATEVER THE INPUT: true; the input reads as it did. -/
def heapSameSpec : ChangeSpec := { name := "heapSame", fn := fun _ => fun
  | [d1, d2, d3] => { results := [.lit (.bool true)], args := [d1, d2, d3] }
  | _ => none }
def heapSameRow : OpenClaim := { program := "ytfeghobfkgimfaa", sum := "56505a7451078cb692c5bc895c8b30b9a51ade05c6c51b68dea25dea551d9ea2", func := "hammock/hammocklaw23.HeapSame", spec := "heapSame", unfollowed := true, recurses := true, apart := false }
def HeapSameSaid : Prop := heapSameRow.holds Try.pinned (OpenSpec.ofChange heapSameSpec)

/-- ITS FALSE NEIGHBOUR: 'it returns false'. Refute it at one input. -/
def heapSameWrong : ChangeSpec := { name := "heapSame", fn := fun _ => fun
  | [d1, d2, d3] => { results := [.lit (.bool false)], args := [d1, d2, d3] }
  | _ => none }
def HeapSameWrongFalsely : Prop := heapSameRow.holds Try.pinned (OpenSpec.ofChange heapSameWrong)

/-- 'hammocklaw23.HeapNil': WHATEVER THE INPUT: true; the input reads as it did. -/
def heapNilSpec : ChangeSpec := { name := "heapNil", fn := fun _ => fun
  | [d] => { results := [.lit (.bool true)], args := [d] }
  | _ => none }
def heapNilRow : OpenClaim := { program := "ytfeghobfkgimfaa", sum := "56505a7451078cb692c5bc895c8b30b9a51ade05c6c51b68dea25dea551d9ea2", func := "hammock/hammocklaw23.HeapNil", spec := "heapNil", unfollowed := true, recurses := true, apart := false }
def HeapNilSaid : Prop := heapNilRow.holds Try.pinned (OpenSpec.ofChange heapNilSpec)

/-- ITS FALSE NEIGHBOUR: 'it returns false'. Refute it at one input. -/
def heapNilWrong : ChangeSpec := { name := "heapNil", fn := fun _ => fun
  | [d] => { results := [.lit (.bool false)], args := [d] }
  | _ => none }
def HeapNilWrongFalsely : Prop := heapNilRow.holds Try.pinned (OpenSpec.ofChange heapNilWrong)

/-- 'hammocklaw03.TreeMoved': WHATEVER THE INPUT: true; the input reads as it did. -/
def treeMovedSpec : ChangeSpec := { name := "treeMoved", fn := fun _ => fun
  | [d1, d2, d3] => { results := [.lit (.bool true)], args := [d1, d2, d3] }
  | _ => none }
def treeMovedRow : OpenClaim := { program := "ytfeghobfkgimfaa", sum := "56505a7451078cb692c5bc895c8b30b9a51ade05c6c51b68dea25dea551d9ea2", func := "hammock/hammocklaw03.TreeMoved", spec := "treeMoved", unfollowed := true, recurses := true, loops := true, apart := false }
def TreeMovedSaid : Prop := treeMovedRow.holds Try.pinned (OpenSpec.ofChange treeMovedSpec)

/-- ITS FALSE NEIGHBOUR: 'it returns false'. Refute it at one input. -/
def treeMovedWrong : ChangeSpec := { name := "treeMoved", fn := fun _ => fun
  | [d1, d2, d3] => { results := [.lit (.bool false)], args := [d1, d2, d3] }
  | _ => none }
def TreeMovedWrongFalsely : Prop := treeMovedRow.holds Try.pinned (OpenSpec.ofChange treeMovedWrong)

/- THE SECOND FORM. 'bulk': how many values and letters a reading holds, each counted each time it is reached (what is shared counts as often as it is met; a slice's spare places count too). A statement '..UptoSaid' is the law's where the arguments, and the package variables that the reading takes, are together of bulk at most 1048576: NARROWER than '..Said'. Prove '..Said' where nothing that the law and all that it calls make is longer than what came in: it says more and counts as full. Else prove '..UptoSaid'. A law counts once. -/
mutual
def uptoBulk {H : Type} : DataW H → Nat
  | .lit (.string bytes) => bytes.length + 1
  | .lit _ => 1
  | .nil => 1
  | .ptr d => uptoBulk d + 1
  | .slice elems spare => uptoBulkAll elems + uptoBulkAll spare + 1
  | .agg parts => uptoBulkAll parts + 1
  | .iface _ d => uptoBulk d + 1
  | .map entries => uptoBulkEntries entries + 1
  | .held _ => 1
def uptoBulkAll {H : Type} : List (DataW H) → Nat
  | [] => 0
  | d :: r => uptoBulk d + uptoBulkAll r
def uptoBulkEntries {H : Type} : List (Lit × DataW H) → Nat
  | [] => 0
  | x :: r => uptoBulkEntry x + uptoBulkEntries r
def uptoBulkEntry {H : Type} : Lit × DataW H → Nat
  | (.string bytes, d) => bytes.length + uptoBulk d + 1
  | (_, d) => uptoBulk d + 1
 end
def uptoSmall : (H : Type) → List (DataW H) → Bool := fun _ ds => decide (uptoBulkAll ds ≤ 1048576)
def OpenSpec.upto (s : _root_.Go.ChangeSpec) : _root_.Go.OpenSpec := { _root_.Go.OpenSpec.ofChange s with cond := some uptoSmall }

/-- 'hammocklaw22.CheckSizes', WHERE WHAT IT READS IS OF BULK AT MOST 1048576: true; the input reads as it did. -/
def checkSizesUptoRow : OpenClaim := { program := "ytfeghobfkgimfaa", sum := "56505a7451078cb692c5bc895c8b30b9a51ade05c6c51b68dea25dea551d9ea2", func := "hammock/hammocklaw22.CheckSizes", spec := "checkSizes", unfollowed := true, recurses := true, apart := false, narrowed := true }
def CheckSizesUptoSaid : Prop := checkSizesUptoRow.holds Try.pinned (OpenSpec.upto checkSizesSpec)

/-- 'hammocklaw22.CheckMoved', WHERE WHAT IT READS IS OF BULK AT MOST 1048576: true; the input reads as it did. -/
def checkMovedUptoRow : OpenClaim := { program := "ytfeghobfkgimfaa", sum := "56505a7451078cb692c5bc895c8b30b9a51ade05c6c51b68dea25dea551d9ea2", func := "hammock/hammocklaw22.CheckMoved", spec := "checkMoved", unfollowed := true, recurses := true, apart := false, narrowed := true }
def CheckMovedUptoSaid : Prop := checkMovedUptoRow.holds Try.pinned (OpenSpec.upto checkMovedSpec)

/-- 'hammocklaw23.HeapFull', WHERE WHAT IT READS IS OF BULK AT MOST 1048576: true; the input reads as it did. -/
def heapFullUptoRow : OpenClaim := { program := "ytfeghobfkgimfaa", sum := "56505a7451078cb692c5bc895c8b30b9a51ade05c6c51b68dea25dea551d9ea2", func := "hammock/hammocklaw23.HeapFull", spec := "heapFull", unfollowed := true, recurses := true, apart := false, narrowed := true }
def HeapFullUptoSaid : Prop := heapFullUptoRow.holds Try.pinned (OpenSpec.upto heapFullSpec)

/-- 'hammocklaw23.HeapSame', WHERE WHAT IT READS IS OF BULK AT MOST 1048576: true; the input reads as it did. -/
def heapSameUptoRow : OpenClaim := { program := "ytfeghobfkgimfaa", sum := "56505a7451078cb692c5bc895c8b30b9a51ade05c6c51b68dea25dea551d9ea2", func := "hammock/hammocklaw23.HeapSame", spec := "heapSame", unfollowed := true, recurses := true, apart := false, narrowed := true }
def HeapSameUptoSaid : Prop := heapSameUptoRow.holds Try.pinned (OpenSpec.upto heapSameSpec)

/-- 'hammocklaw23.HeapNil', WHERE WHAT IT READS IS OF BULK AT MOST 1048576: true; the input reads as it did. -/
def heapNilUptoRow : OpenClaim := { program := "ytfeghobfkgimfaa", sum := "56505a7451078cb692c5bc895c8b30b9a51ade05c6c51b68dea25dea551d9ea2", func := "hammock/hammocklaw23.HeapNil", spec := "heapNil", unfollowed := true, recurses := true, apart := false, narrowed := true }
def HeapNilUptoSaid : Prop := heapNilUptoRow.holds Try.pinned (OpenSpec.upto heapNilSpec)

/-- 'hammocklaw03.TreeMoved', WHERE WHAT IT READS IS OF BULK AT MOST 1048576: true; the input reads as it did. -/
def treeMovedUptoRow : OpenClaim := { program := "ytfeghobfkgimfaa", sum := "56505a7451078cb692c5bc895c8b30b9a51ade05c6c51b68dea25dea551d9ea2", func := "hammock/hammocklaw03.TreeMoved", spec := "treeMoved", unfollowed := true, recurses := true, loops := true, apart := false, narrowed := true }
def TreeMovedUptoSaid : Prop := treeMovedUptoRow.holds Try.pinned (OpenSpec.upto treeMovedSpec)

end Rows
end Go.Proofs.Ytfeghobfkgimfaa
