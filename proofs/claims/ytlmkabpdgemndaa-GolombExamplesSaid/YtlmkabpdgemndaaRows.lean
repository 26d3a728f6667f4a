/-
  No cell of these rows narrows 'for every input' (looked for: loops, veiled, ifaces, maps, wideKeys, modest, calm, conditions, laid).
  DERIVED. THE GIVEN ROWS OF THIS SEAT. 8 by the template 'for every input the law returns true; each argument reads behind the call as it read before'; 0 by the template 'total and deterministic' (their statements: YtlmkabpdgemndaaTotals.lean).
  GIVEN WITH THE SEED: the statements are not yours to turn. If you find one false, say at which input.
  Laid BY PROGRAM, IN A SANDBOX (cutbox-rows.mjs): the forced cells as the released guide's own fill.sh prints them over the translation 1374bb937981cf91… (all of the seat's roots in one cut). By AI agents, Wed Nov 11 2026. No macro, syntax, notation, axiom, sorry.
-/
import Derived.Test.YtlmkabpdgemndaaChecked
import GoSem.Claim
import GoSem.ClaimJoined
import GoSem.ClaimMapViews
import Derived.JoinedTies
import Derived.KernelRfl
namespace Go.Proofs.Ytlmkabpdgemndaa
/- THE CELL 'sum', in the pinned program and in every row, IS THE sha256 OF THE DUMP (.gsa) THAT YtlmkabpdgemndaaProg.lean LOADS. Nothing in Lean hashes anything: it is a label: what it is worth is what the hold of that sum in a sandbox is worth. -/
noncomputable def Try.pinned : Pinned := { name := "ytlmkabpdgemndaa", sum := "1374bb937981cf915a6928c60584e7fc7d8a7d87a5dc6f0e75ad4898dce4da3b", checked := Try.checked }
namespace Rows
def none {H : Type} : Left H := { results := [], args := [] }

/-- 'spindlelaw02.GolombComplete': WHATEVER THE INPUT: true; the input reads as it did. -/
def golombCompleteSpec : ChangeSpec := { name := "golombComplete", fn := fun _ => fun
  | [d] => { results := [.lit (.bool true)], args := [d] }
  | _ => none }
def golombCompleteRow : OpenClaim := { program := "ytlmkabpdgemndaa", sum := "1374bb937981cf915a6928c60584e7fc7d8a7d87a5dc6f0e75ad4898dce4da3b", func := "spindle/spindlelaw02.GolombComplete", spec := "golombComplete", apart := false }
def GolombCompleteSaid : Prop := golombCompleteRow.holds Try.pinned (OpenSpec.ofChange golombCompleteSpec)

/-- ITS FALSE NEIGHBOUR: 'it returns false'. Refute it at one input. -/
def golombCompleteWrong : ChangeSpec := { name := "golombComplete", fn := fun _ => fun
  | [d] => { results := [.lit (.bool false)], args := [d] }
  | _ => none }
def GolombCompleteWrongFalsely : Prop := golombCompleteRow.holds Try.pinned (OpenSpec.ofChange golombCompleteWrong)

/-- 'spindlelaw02.GolombWrites': WHATEVER THE INPUT: true; the input reads as it did. -/
def golombWritesSpec : ChangeSpec := { name := "golombWrites", fn := fun _ => fun
  | [d] => { results := [.lit (.bool true)], args := [d] }
  | _ => none }
def golombWritesRow : OpenClaim := { program := "ytlmkabpdgemndaa", sum := "1374bb937981cf915a6928c60584e7fc7d8a7d87a5dc6f0e75ad4898dce4da3b", func := "spindle/spindlelaw02.GolombWrites", spec := "golombWrites", apart := false }
def GolombWritesSaid : Prop := golombWritesRow.holds Try.pinned (OpenSpec.ofChange golombWritesSpec)

/-- ITS FALSE NEIGHBOUR: 'it returns false'. Refute it at one input. -/
def golombWritesWrong : ChangeSpec := { name := "golombWrites", fn := fun _ => fun
  | [d] => { results := [.lit (.bool false)], args := [d] }
  | _ => none }
def GolombWritesWrongFalsely : Prop := golombWritesRow.holds Try.pinned (OpenSpec.ofChange golombWritesWrong)

/-- 'spindlelaw02.GolombApart': WHATEVER THE INPUT: true; the input reads as it did. -/
def golombApartSpec : ChangeSpec := { name := "golombApart", fn := fun _ => fun
  | [d1, d2] => { results := [.lit (.bool true)], args := [d1, d2] }
  | _ => none }
def golombApartRow : OpenClaim := { program := "ytlmkabpdgemndaa", sum := "1374bb937981cf915a6928c60584e7fc7d8a7d87a5dc6f0e75ad4898dce4da3b", func := "spindle/spindlelaw02.GolombApart", spec := "golombApart", apart := false }
def GolombApartSaid : Prop := golombApartRow.holds Try.pinned (OpenSpec.ofChange golombApartSpec)

/-- ITS FALSE NEIGHBOUR: 'it returns false'. Refute it at one input. -/
def golombApartWrong : ChangeSpec := { name := "golombApart", fn := fun _ => fun
  | [d1, d2] => { results := [.lit (.bool false)], args := [d1, d2] }
  | _ => none }
def GolombApartWrongFalsely : Prop := golombApartRow.holds Try.pinned (OpenSpec.ofChange golombApartWrong)

/-- 'spindlelaw02.GolombLengths': WHATEVER THE INPUT: true; the input reads as it did. -/
def golombLengthsSpec : ChangeSpec := { name := "golombLengths", fn := fun _ => fun
  | [d1, d2] => { results := [.lit (.bool true)], args := [d1, d2] }
  | _ => none }
def golombLengthsRow : OpenClaim := { program := "ytlmkabpdgemndaa", sum := "1374bb937981cf915a6928c60584e7fc7d8a7d87a5dc6f0e75ad4898dce4da3b", func := "spindle/spindlelaw02.GolombLengths", spec := "golombLengths", apart := false }
def GolombLengthsSaid : Prop := golombLengthsRow.holds Try.pinned (OpenSpec.ofChange golombLengthsSpec)

/-- ITS FALSE NEIGHBOUR: 'it returns false'. Refute it at one input. -/
def golombLengthsWrong : ChangeSpec := { name := "golombLengths", fn := fun _ => fun
  | [d1, d2] => { results := [.lit (.bool false)], args := [d1, d2] }
  | _ => none }
def GolombLengthsWrongFalsely : Prop := golombLengthsRow.holds Try.pinned (OpenSpec.ofChange golombLengthsWrong)

/-- 'spindlelaw02.GolombOrder': WHATEVER THE INPUT: true; the input reads as it did. -/
def golombOrderSpec : ChangeSpec := { name := "golombOrder", fn := fun _ => fun
  | [d1, d2] => { results := [.lit (.bool true)], args := [d1, d2] }
  | _ => none }
def golombOrderRow : OpenClaim := { program := "ytlmkabpdgemndaa", sum := "1374bb937981cf915a6928c60584e7fc7d8a7d87a5dc6f0e75ad4898dce4da3b", func := "spindle/spindlelaw02.GolombOrder", spec := "golombOrder", apart := false }
def GolombOrderSaid : Prop := golombOrderRow.holds Try.pinned (OpenSpec.ofChange golombOrderSpec)

/-- ITS FALSE NEIGHBOUR: 'it returns false'. Refute it at one input. -/
def golombOrderWrong : ChangeSpec := { name := "golombOrder", fn := fun _ => fun
  | [d1, d2] => { results := [.lit (.bool false)], args := [d1, d2] }
  | _ => none }
def GolombOrderWrongFalsely : Prop := golombOrderRow.holds Try.pinned (OpenSpec.ofChange golombOrderWrong)

/-- 'spindlelaw02.GolombReads': WHATEVER THE INPUT: true; the input reads as it did. -/
def golombReadsSpec : ChangeSpec := { name := "golombReads", fn := fun _ => fun
  | [d1, d2] => { results := [.lit (.bool true)], args := [d1, d2] }
  | _ => none }
def golombReadsRow : OpenClaim := { program := "ytlmkabpdgemndaa", sum := "1374bb937981cf915a6928c60584e7fc7d8a7d87a5dc6f0e75ad4898dce4da3b", func := "spindle/spindlelaw02.GolombReads", spec := "golombReads", unfollowed := true, recurses := true, apart := false }
def GolombReadsSaid : Prop := golombReadsRow.holds Try.pinned (OpenSpec.ofChange golombReadsSpec)

/-- ITS FALSE NEIGHBOUR: 'it returns false'. Refute it at one input. -/
def golombReadsWrong : ChangeSpec := { name := "golombReads", fn := fun _ => fun
  | [d1, d2] => { results := [.lit (.bool false)], args := [d1, d2] }
  | _ => none }
def GolombReadsWrongFalsely : Prop := golombReadsRow.holds Try.pinned (OpenSpec.ofChange golombReadsWrong)

/-- 'spindlelaw02.GolombExamples': WHATEVER THE INPUT: true; the input reads as it did. -/
def golombExamplesSpec : ChangeSpec := { name := "golombExamples", fn := fun _ => fun
  | [] => { results := [.lit (.bool true)], args := [] }
  | _ => none }
def golombExamplesRow : OpenClaim := { program := "ytlmkabpdgemndaa", sum := "1374bb937981cf915a6928c60584e7fc7d8a7d87a5dc6f0e75ad4898dce4da3b", func := "spindle/spindlelaw02.GolombExamples", spec := "golombExamples", unfollowed := true, recurses := true, apart := false }
def GolombExamplesSaid : Prop := golombExamplesRow.holds Try.pinned (OpenSpec.ofChange golombExamplesSpec)

/-- ITS FALSE NEIGHBOUR: 'it returns false'. Refute it at one input. -/
def golombExamplesWrong : ChangeSpec := { name := "golombExamples", fn := fun _ => fun
  | [] => { results := [.lit (.bool false)], args := [] }
  | _ => none }
def GolombExamplesWrongFalsely : Prop := golombExamplesRow.holds Try.pinned (OpenSpec.ofChange golombExamplesWrong)

/-- 'spindlelaw02.GolombBack': WHATEVER THE INPUT: true; the input reads as it did. -/
def golombBackSpec : ChangeSpec := { name := "golombBack", fn := fun _ => fun
  | [d1, d2] => { results := [.lit (.bool true)], args := [d1, d2] }
  | _ => none }
def golombBackRow : OpenClaim := { program := "ytlmkabpdgemndaa", sum := "1374bb937981cf915a6928c60584e7fc7d8a7d87a5dc6f0e75ad4898dce4da3b", func := "spindle/spindlelaw02.GolombBack", spec := "golombBack", unfollowed := true, recurses := true, apart := false }
def GolombBackSaid : Prop := golombBackRow.holds Try.pinned (OpenSpec.ofChange golombBackSpec)

/-- ITS FALSE NEIGHBOUR: 'it returns false'. Refute it at one input. -/
def golombBackWrong : ChangeSpec := { name := "golombBack", fn := fun _ => fun
  | [d1, d2] => { results := [.lit (.bool false)], args := [d1, d2] }
  | _ => none }
def GolombBackWrongFalsely : Prop := golombBackRow.holds Try.pinned (OpenSpec.ofChange golombBackWrong)

/- THE SECOND FORM. 'bulk': how many values and letters a reading holds, each counted each time it is reached (what is shared counts as often as it is met; a slice's spare places count too). A statement '..UptoSaid' is the law's where the arguments, and the package variables that the reading takes, are together of bulk at most 1048576: NARROWER than '..Said'. Prove '..Said' where nothing that the law and all that it calls make is longer than what came in: it says more and counts as full. Else prove '..UptoSaid'. A law counts once. -/
mutual
def uptoBulk {H : Type} : DataW H → Nat
  | .lit (.string bytes) => bytes.length + 1
  | .lit _ => 1
  | .nil => 1
  | .ptr d => uptoBulk d + 1
  | .slice elems spare => uptoBulkAll elems + uptoBulkAll spare + 1
  | .agg parts => uptoBulkAll parts + 1
  | .iface _ d => uptoBulk d + 1
  | .map entries => uptoBulkEntries entries + 1
  | .held _ => 1
def uptoBulkAll {H : Type} : List (DataW H) → Nat
  | [] => 0
  | d :: r => uptoBulk d + uptoBulkAll r
def uptoBulkEntries {H : Type} : List (Lit × DataW H) → Nat
  | [] => 0
  | x :: r => uptoBulkEntry x + uptoBulkEntries r
def uptoBulkEntry {H : Type} : Lit × DataW H → Nat
  | (.string bytes, d) => bytes.length + uptoBulk d + 1
  | (_, d) => uptoBulk d + 1
 end
def uptoSmall : (H : Type) → List (DataW H) → Bool := fun _ ds => decide (uptoBulkAll ds ≤ 1048576)
def OpenSpec.upto (s : _root_.Go.ChangeSpec) : _root_.Go.OpenSpec := { _root_.Go.OpenSpec.ofChange s with cond := some uptoSmall }

/-- 'spindlelaw02.GolombComplete', WHERE WHAT IT READS IS OF BULK AT MOST 1048576: true; the input reads as it did. -/
def golombCompleteUptoRow : OpenClaim := { program := "ytlmkabpdgemndaa", sum := "1374bb937981cf915a6928c60584e7fc7d8a7d87a5dc6f0e75ad4898dce4da3b", func := "spindle/spindlelaw02.GolombComplete", spec := "golombComplete", apart := false, narrowed := true }
def GolombCompleteUptoSaid : Prop := golombCompleteUptoRow.holds Try.pinned (OpenSpec.upto golombCompleteSpec)

/-- 'spindlelaw02.GolombWrites', WHERE WHAT IT READS IS OF BULK AT MOST 1048576: true; the input reads as it did. -/
def golombWritesUptoRow : OpenClaim := { program := "ytlmkabpdgemndaa", sum := "1374bb937981cf915a6928c60584e7fc7d8a7d87a5dc6f0e75ad4898dce4da3b", func := "spindle/spindlelaw02.GolombWrites", spec := "golombWrites", apart := false, narrowed := true }
def GolombWritesUptoSaid : Prop := golombWritesUptoRow.holds Try.pinned (OpenSpec.upto golombWritesSpec)

/-- 'spindlelaw02.GolombApart', WHERE WHAT IT READS IS OF BULK AT MOST 1048576: true; the input reads as it did. -/
def golombApartUptoRow : OpenClaim := { program := "ytlmkabpdgemndaa", sum := "1374bb937981cf915a6928c60584e7fc7d8a7d87a5dc6f0e75ad4898dce4da3b", func := "spindle/spindlelaw02.GolombApart", spec := "golombApart", apart := false, narrowed := true }
def GolombApartUptoSaid : Prop := golombApartUptoRow.holds Try.pinned (OpenSpec.upto golombApartSpec)

/-- 'spindlelaw02.GolombLengths', WHERE WHAT IT READS IS OF BULK AT MOST 1048576: true; the input reads as it did. -/
def golombLengthsUptoRow : OpenClaim := { program := "ytlmkabpdgemndaa", sum := "1374bb937981cf915a6928c60584e7fc7d8a7d87a5dc6f0e75ad4898dce4da3b", func := "spindle/spindlelaw02.GolombLengths", spec := "golombLengths", apart := false, narrowed := true }
def GolombLengthsUptoSaid : Prop := golombLengthsUptoRow.holds Try.pinned (OpenSpec.upto golombLengthsSpec)

/-- 'spindlelaw02.GolombOrder', WHERE WHAT IT READS IS OF BULK AT MOST 1048576: true; the input reads as it did. -/
def golombOrderUptoRow : OpenClaim := { program := "ytlmkabpdgemndaa", sum := "1374bb937981cf915a6928c60584e7fc7d8a7d87a5dc6f0e75ad4898dce4da3b", func := "spindle/spindlelaw02.GolombOrder", spec := "golombOrder", apart := false, narrowed := true }
def GolombOrderUptoSaid : Prop := golombOrderUptoRow.holds Try.pinned (OpenSpec.upto golombOrderSpec)

/-- 'spindlelaw02.GolombReads', WHERE WHAT IT READS IS OF BULK AT MOST 1048576: true; the input reads as it did. -/
def golombReadsUptoRow : OpenClaim := { program := "ytlmkabpdgemndaa", sum := "1374bb937981cf915a6928c60584e7fc7d8a7d87a5dc6f0e75ad4898dce4da3b", func := "spindle/spindlelaw02.GolombReads", spec := "golombReads", unfollowed := true, recurses := true, apart := false, narrowed := true }
def GolombReadsUptoSaid : Prop := golombReadsUptoRow.holds Try.pinned (OpenSpec.upto golombReadsSpec)

/-- 'spindlelaw02.GolombExamples', WHERE WHAT IT READS IS OF BULK AT MOST 1048576: true; the input reads as it did. -/
def golombExamplesUptoRow : OpenClaim := { program := "ytlmkabpdgemndaa", sum := "1374bb937981cf915a6928c60584e7fc7d8a7d87a5dc6f0e75ad4898dce4da3b", func := "spindle/spindlelaw02.GolombExamples", spec := "golombExamples", unfollowed := true, recurses := true, apart := false, narrowed := true }
def GolombExamplesUptoSaid : Prop := golombExamplesUptoRow.holds Try.pinned (OpenSpec.upto golombExamplesSpec)

/-- 'spindlelaw02.GolombBack', WHERE WHAT IT READS IS OF BULK AT MOST 1048576: true; the input reads as it did. -/
def golombBackUptoRow : OpenClaim := { program := "ytlmkabpdgemndaa", sum := "1374bb937981cf915a6928c60584e7fc7d8a7d87a5dc6f0e75ad4898dce4da3b", func := "spindle/spindlelaw02.GolombBack", spec := "golombBack", unfollowed := true, recurses := true, apart := false, narrowed := true }
def GolombBackUptoSaid : Prop := golombBackUptoRow.holds Try.pinned (OpenSpec.upto golombBackSpec)

end Rows
end Go.Proofs.Ytlmkabpdgemndaa
