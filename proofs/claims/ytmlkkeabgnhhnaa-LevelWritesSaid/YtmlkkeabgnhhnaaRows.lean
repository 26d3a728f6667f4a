/-
  No cell of these rows narrows 'for every input' (looked for: loops, veiled, ifaces, maps, wideKeys, modest, calm, conditions, laid).
  DERIVED. THE GIVEN ROWS OF THIS SEAT. 7 by the template 'for every input the law returns true; each argument reads behind the call as it read before'; 0 by the template 'total and deterministic' (their statements: YtmlkkeabgnhhnaaTotals.lean).
  GIVEN WITH THE SEED: the statements are not yours to turn. If you find one false, say at which input.
  Laid BY PROGRAM, IN A SANDBOX (cutbox-rows.mjs): the forced cells as the released guide's own fill.sh prints them over the translation e5d205f677bb58a9… (all of the seat's roots in one cut). By AI agents, Wed Nov 11 2026. No macro, syntax, notation, axiom, sorry.
-/
import Derived.Test.YtmlkkeabgnhhnaaChecked
import GoSem.Claim
import GoSem.ClaimJoined
import GoSem.ClaimMapViews
import Derived.JoinedTies
import Derived.KernelRfl
namespace Go.Proofs.Ytmlkkeabgnhhnaa
/- THE CELL 'sum', in the pinned program and in every row, IS THE sha256 OF THE DUMP (.gsa) THAT YtmlkkeabgnhhnaaProg.lean LOADS. Nothing in Lean hashes anything: it is a label: what it is worth is what the hold of that sum in a sandbox is worth. -/
noncomputable def Try.pinned : Pinned := { name := "ytmlkkeabgnhhnaa", sum := "e5d205f677bb58a95898212d1ad7fcfce9ec21cf7f0507cdde930681cac2f1ac", checked := Try.checked }
namespace Rows
def none {H : Type} : Left H := { results := [], args := [] }

/-- 'spindlelaw19.LevelWrites': WHATEVER THE INPUT: true; the input reads as it did. -/
def levelWritesSpec : ChangeSpec := { name := "levelWrites", fn := fun _ => fun
  | [d1, d2, d3] => { results := [.lit (.bool true)], args := [d1, d2, d3] }
  | _ => none }
def levelWritesRow : OpenClaim := { program := "ytmlkkeabgnhhnaa", sum := "e5d205f677bb58a95898212d1ad7fcfce9ec21cf7f0507cdde930681cac2f1ac", func := "spindle/spindlelaw19.LevelWrites", spec := "levelWrites", apart := false }
def LevelWritesSaid : Prop := levelWritesRow.holds Try.pinned (OpenSpec.ofChange levelWritesSpec)

/-- ITS FALSE NEIGHBOUR: 'it returns false'. Refute it at one input. -/
def levelWritesWrong : ChangeSpec := { name := "levelWrites", fn := fun _ => fun
  | [d1, d2, d3] => { results := [.lit (.bool false)], args := [d1, d2, d3] }
  | _ => none }
def LevelWritesWrongFalsely : Prop := levelWritesRow.holds Try.pinned (OpenSpec.ofChange levelWritesWrong)

/-- 'spindlelaw19.LevelBounds': WHATEVER THE INPUT: true; the input reads as it did. -/
def levelBoundsSpec : ChangeSpec := { name := "levelBounds", fn := fun _ => fun
  | [d1, d2, d3, d4] => { results := [.lit (.bool true)], args := [d1, d2, d3, d4] }
  | _ => none }
def levelBoundsRow : OpenClaim := { program := "ytmlkkeabgnhhnaa", sum := "e5d205f677bb58a95898212d1ad7fcfce9ec21cf7f0507cdde930681cac2f1ac", func := "spindle/spindlelaw19.LevelBounds", spec := "levelBounds", apart := false }
def LevelBoundsSaid : Prop := levelBoundsRow.holds Try.pinned (OpenSpec.ofChange levelBoundsSpec)

/-- ITS FALSE NEIGHBOUR: 'it returns false'. Refute it at one input. -/
def levelBoundsWrong : ChangeSpec := { name := "levelBounds", fn := fun _ => fun
  | [d1, d2, d3, d4] => { results := [.lit (.bool false)], args := [d1, d2, d3, d4] }
  | _ => none }
def LevelBoundsWrongFalsely : Prop := levelBoundsRow.holds Try.pinned (OpenSpec.ofChange levelBoundsWrong)

/-- 'spindlelaw19.LevelCopies': WHATEVER THE INPUT: true; the input reads as it did. -/
def levelCopiesSpec : ChangeSpec := { name := "levelCopies", fn := fun _ => fun
  | [d1, d2, d3] => { results := [.lit (.bool true)], args := [d1, d2, d3] }
  | _ => none }
def levelCopiesRow : OpenClaim := { program := "ytmlkkeabgnhhnaa", sum := "e5d205f677bb58a95898212d1ad7fcfce9ec21cf7f0507cdde930681cac2f1ac", func := "spindle/spindlelaw19.LevelCopies", spec := "levelCopies", apart := false }
def LevelCopiesSaid : Prop := levelCopiesRow.holds Try.pinned (OpenSpec.ofChange levelCopiesSpec)

/-- ITS FALSE NEIGHBOUR: 'it returns false'. Refute it at one input. -/
def levelCopiesWrong : ChangeSpec := { name := "levelCopies", fn := fun _ => fun
  | [d1, d2, d3] => { results := [.lit (.bool false)], args := [d1, d2, d3] }
  | _ => none }
def LevelCopiesWrongFalsely : Prop := levelCopiesRow.holds Try.pinned (OpenSpec.ofChange levelCopiesWrong)

/-- 'spindlelaw19.LevelReads': WHATEVER THE INPUT: true; the input reads as it did. -/
def levelReadsSpec : ChangeSpec := { name := "levelReads", fn := fun _ => fun
  | [d1, d2, d3] => { results := [.lit (.bool true)], args := [d1, d2, d3] }
  | _ => none }
def levelReadsRow : OpenClaim := { program := "ytmlkkeabgnhhnaa", sum := "e5d205f677bb58a95898212d1ad7fcfce9ec21cf7f0507cdde930681cac2f1ac", func := "spindle/spindlelaw19.LevelReads", spec := "levelReads", unfollowed := true, recurses := true, apart := false }
def LevelReadsSaid : Prop := levelReadsRow.holds Try.pinned (OpenSpec.ofChange levelReadsSpec)

/-- ITS FALSE NEIGHBOUR: 'it returns false'. Refute it at one input. -/
def levelReadsWrong : ChangeSpec := { name := "levelReads", fn := fun _ => fun
  | [d1, d2, d3] => { results := [.lit (.bool false)], args := [d1, d2, d3] }
  | _ => none }
def LevelReadsWrongFalsely : Prop := levelReadsRow.holds Try.pinned (OpenSpec.ofChange levelReadsWrong)

/-- 'spindlelaw19.LevelBack': WHATEVER THE INPUT: true; the input reads as it did. -/
def levelBackSpec : ChangeSpec := { name := "levelBack", fn := fun _ => fun
  | [d1, d2, d3, d4] => { results := [.lit (.bool true)], args := [d1, d2, d3, d4] }
  | _ => none }
def levelBackRow : OpenClaim := { program := "ytmlkkeabgnhhnaa", sum := "e5d205f677bb58a95898212d1ad7fcfce9ec21cf7f0507cdde930681cac2f1ac", func := "spindle/spindlelaw19.LevelBack", spec := "levelBack", unfollowed := true, recurses := true, apart := false }
def LevelBackSaid : Prop := levelBackRow.holds Try.pinned (OpenSpec.ofChange levelBackSpec)

/-- ITS FALSE NEIGHBOUR: 'it returns false'. Refute it at one input. -/
def levelBackWrong : ChangeSpec := { name := "levelBack", fn := fun _ => fun
  | [d1, d2, d3, d4] => { results := [.lit (.bool false)], args := [d1, d2, d3, d4] }
  | _ => none }
def LevelBackWrongFalsely : Prop := levelBackRow.holds Try.pinned (OpenSpec.ofChange levelBackWrong)

/-- 'spindlelaw19.LevelComplete': WHATEVER THE INPUT: true; the input reads as it did. -/
def levelCompleteSpec : ChangeSpec := { name := "levelComplete", fn := fun _ => fun
  | [d1, d2, d3] => { results := [.lit (.bool true)], args := [d1, d2, d3] }
  | _ => none }
def levelCompleteRow : OpenClaim := { program := "ytmlkkeabgnhhnaa", sum := "e5d205f677bb58a95898212d1ad7fcfce9ec21cf7f0507cdde930681cac2f1ac", func := "spindle/spindlelaw19.LevelComplete", spec := "levelComplete", unfollowed := true, recurses := true, apart := false }
def LevelCompleteSaid : Prop := levelCompleteRow.holds Try.pinned (OpenSpec.ofChange levelCompleteSpec)

/-- ITS FALSE NEIGHBOUR: 'it returns false'. Refute it at one input. -/
def levelCompleteWrong : ChangeSpec := { name := "levelComplete", fn := fun _ => fun
  | [d1, d2, d3] => { results := [.lit (.bool false)], args := [d1, d2, d3] }
  | _ => none }
def LevelCompleteWrongFalsely : Prop := levelCompleteRow.holds Try.pinned (OpenSpec.ofChange levelCompleteWrong)

/-- 'spindlelaw19.LevelExamples': WHATEVER THE INPUT: true; the input reads as it did. -/
def levelExamplesSpec : ChangeSpec := { name := "levelExamples", fn := fun _ => fun
  | [] => { results := [.lit (.bool true)], args := [] }
  | _ => none }
def levelExamplesRow : OpenClaim := { program := "ytmlkkeabgnhhnaa", sum := "e5d205f677bb58a95898212d1ad7fcfce9ec21cf7f0507cdde930681cac2f1ac", func := "spindle/spindlelaw19.LevelExamples", spec := "levelExamples", unfollowed := true, recurses := true, apart := false }
def LevelExamplesSaid : Prop := levelExamplesRow.holds Try.pinned (OpenSpec.ofChange levelExamplesSpec)

/-- ITS FALSE NEIGHBOUR: 'it returns false'. Refute it at one input. -/
def levelExamplesWrong : ChangeSpec := { name := "levelExamples", fn := fun _ => fun
  | [] => { results := [.lit (.bool false)], args := [] }
  | _ => none }
def LevelExamplesWrongFalsely : Prop := levelExamplesRow.holds Try.pinned (OpenSpec.ofChange levelExamplesWrong)

/- THE SECOND FORM. 'bulk': how many values and letters a reading holds, each counted each time it is reached (what is shared counts as often as it is met; a slice's spare places count too). A statement '..UptoSaid' is the law's where the arguments, and the package variables that the reading takes, are together of bulk at most 1048576: NARROWER than '..Said'. Prove '..Said' where nothing that the law and all that it calls make is longer than what came in: it says more and counts as full. Else prove '..UptoSaid'. A law counts once. -/
mutual
def uptoBulk {H : Type} : DataW H → Nat
  | .lit (.string bytes) => bytes.length + 1
  | .lit _ => 1
  | .nil => 1
  | .ptr d => uptoBulk d + 1
  | .slice elems spare => uptoBulkAll elems + uptoBulkAll spare + 1
  | .agg parts => uptoBulkAll parts + 1
  | .iface _ d => uptoBulk d + 1
  | .map entries => uptoBulkEntries entries + 1
  | .held _ => 1
def uptoBulkAll {H : Type} : List (DataW H) → Nat
  | [] => 0
  | d :: r => uptoBulk d + uptoBulkAll r
def uptoBulkEntries {H : Type} : List (Lit × DataW H) → Nat
  | [] => 0
  | x :: r => uptoBulkEntry x + uptoBulkEntries r
def uptoBulkEntry {H : Type} : Lit × DataW H → Nat
  | (.string bytes, d) => bytes.length + uptoBulk d + 1
  | (_, d) => uptoBulk d + 1
 end
def uptoSmall : (H : Type) → List (DataW H) → Bool := fun _ ds => decide (uptoBulkAll ds ≤ 1048576)
def OpenSpec.upto (s : _root_.Go.ChangeSpec) : _root_.Go.OpenSpec := { _root_.Go.OpenSpec.ofChange s with cond := some uptoSmall }

/-- 'spindlelaw19.LevelWrites', WHERE WHAT IT READS IS OF BULK AT MOST 1048576: true; the input reads as it did. -/
def levelWritesUptoRow : OpenClaim := { program := "ytmlkkeabgnhhnaa", sum := "e5d205f677bb58a95898212d1ad7fcfce9ec21cf7f0507cdde930681cac2f1ac", func := "spindle/spindlelaw19.LevelWrites", spec := "levelWrites", apart := false, narrowed := true }
def LevelWritesUptoSaid : Prop := levelWritesUptoRow.holds Try.pinned (OpenSpec.upto levelWritesSpec)

/-- 'spindlelaw19.LevelBounds', WHERE WHAT IT READS IS OF BULK AT MOST 1048576: true; the input reads as it did. -/
def levelBoundsUptoRow : OpenClaim := { program := "ytmlkkeabgnhhnaa", sum := "e5d205f677bb58a95898212d1ad7fcfce9ec21cf7f0507cdde930681cac2f1ac", func := "spindle/spindlelaw19.LevelBounds", spec := "levelBounds", apart := false, narrowed := true }
def LevelBoundsUptoSaid : Prop := levelBoundsUptoRow.holds Try.pinned (OpenSpec.upto levelBoundsSpec)

/-- 'spindlelaw19.LevelCopies', WHERE WHAT IT READS IS OF BULK AT MOST 1048576: true; the input reads as it did. -/
def levelCopiesUptoRow : OpenClaim := { program := "ytmlkkeabgnhhnaa", sum := "e5d205f677bb58a95898212d1ad7fcfce9ec21cf7f0507cdde930681cac2f1ac", func := "spindle/spindlelaw19.LevelCopies", spec := "levelCopies", apart := false, narrowed := true }
def LevelCopiesUptoSaid : Prop := levelCopiesUptoRow.holds Try.pinned (OpenSpec.upto levelCopiesSpec)

/-- 'spindlelaw19.LevelReads', WHERE WHAT IT READS IS OF BULK AT MOST 1048576: true; the input reads as it did. -/
def levelReadsUptoRow : OpenClaim := { program := "ytmlkkeabgnhhnaa", sum := "e5d205f677bb58a95898212d1ad7fcfce9ec21cf7f0507cdde930681cac2f1ac", func := "spindle/spindlelaw19.LevelReads", spec := "levelReads", unfollowed := true, recurses := true, apart := false, narrowed := true }
def LevelReadsUptoSaid : Prop := levelReadsUptoRow.holds Try.pinned (OpenSpec.upto levelReadsSpec)

/-- 'spindlelaw19.LevelBack', WHERE WHAT IT READS IS OF BULK AT MOST 1048576: true; the input reads as it did. -/
def levelBackUptoRow : OpenClaim := { program := "ytmlkkeabgnhhnaa", sum := "e5d205f677bb58a95898212d1ad7fcfce9ec21cf7f0507cdde930681cac2f1ac", func := "spindle/spindlelaw19.LevelBack", spec := "levelBack", unfollowed := true, recurses := true, apart := false, narrowed := true }
def LevelBackUptoSaid : Prop := levelBackUptoRow.holds Try.pinned (OpenSpec.upto levelBackSpec)

/-- 'spindlelaw19.LevelComplete', WHERE WHAT IT READS IS OF BULK AT MOST 1048576: true; the input reads as it did. -/
def levelCompleteUptoRow : OpenClaim := { program := "ytmlkkeabgnhhnaa", sum := "e5d205f677bb58a95898212d1ad7fcfce9ec21cf7f0507cdde930681cac2f1ac", func := "spindle/spindlelaw19.LevelComplete", spec := "levelComplete", unfollowed := true, recurses := true, apart := false, narrowed := true }
def LevelCompleteUptoSaid : Prop := levelCompleteUptoRow.holds Try.pinned (OpenSpec.upto levelCompleteSpec)

/-- 'spindlelaw19.LevelExamples', WHERE WHAT IT READS IS OF BULK AT MOST 1048576: true; the input reads as it did. -/
def levelExamplesUptoRow : OpenClaim := { program := "ytmlkkeabgnhhnaa", sum := "e5d205f677bb58a95898212d1ad7fcfce9ec21cf7f0507cdde930681cac2f1ac", func := "spindle/spindlelaw19.LevelExamples", spec := "levelExamples", unfollowed := true, recurses := true, apart := false, narrowed := true }
def LevelExamplesUptoSaid : Prop := levelExamplesUptoRow.holds Try.pinned (OpenSpec.upto levelExamplesSpec)

end Rows
end Go.Proofs.Ytmlkkeabgnhhnaa
