/-
  No cell of these rows narrows 'for every input' (looked for: loops, veiled, ifaces, maps, wideKeys, modest, calm, conditions, laid).
  DERIVED. THE GIVEN ROWS OF THIS SEAT. 6 by the template 'for every input the law returns true; each argument reads behind the call as it read before'; 0 by the template 'total and deterministic' (their statements: YtlckjjgamnphbaaTotals.lean).
  GIVEN WITH THE SEED: the statements are not yours to turn. If you find one false, say at which input.
  Laid BY PROGRAM, IN A SANDBOX (cutbox-rows.mjs): the forced cells as the released guide's own fill.sh prints them over the translation 344d59ed5a6170b2… (all of the seat's roots in one cut). By AI agents, Wed Nov 11 2026. No macro, syntax, notation, axiom, sorry.
-/
import Derived.Test.YtlckjjgamnphbaaChecked
import GoSem.Claim
import GoSem.ClaimJoined
import GoSem.ClaimMapViews
import Derived.JoinedTies
import Derived.KernelRfl
namespace Go.Proofs.Ytlckjjgamnphbaa
/- THE CELL 'sum', in the pinned program and in every row, IS THE sha256 OF THE DUMP (.gsa) THAT YtlckjjgamnphbaaProg.lean LOADS. Nothing in Lean hashes anything: it is a label: what it is worth is what the hold of that sum in a sandbox is worth. -/
noncomputable def Try.pinned : Pinned := { name := "ytlckjjgamnphbaa", sum := "344d59ed5a6170b25a56f32a1edb0bf8736f57019667627138c1a6f9fb140514", checked := Try.checked }
namespace Rows
def none {H : Type} : Left H := { results := [], args := [] }

/-- 'spindlelaw05.RbspExamples': WHATEVER THE INPUT: true; the input reads as it did. -/
def rbspExamplesSpec : ChangeSpec := { name := "rbspExamples", fn := fun _ => fun
  | [] => { results := [.lit (.bool true)], args := [] }
  | _ => none }
def rbspExamplesRow : OpenClaim := { program := "ytlckjjgamnphbaa", sum := "344d59ed5a6170b25a56f32a1edb0bf8736f57019667627138c1a6f9fb140514", func := "spindle/spindlelaw05.RbspExamples", spec := "rbspExamples", unfollowed := true, recurses := true, apart := false }
def RbspExamplesSaid : Prop := rbspExamplesRow.holds Try.pinned (OpenSpec.ofChange rbspExamplesSpec)

/-- ITS FALSE NEIGHBOUR: 'it returns false'. Refute it at one input. -/
def rbspExamplesWrong : ChangeSpec := { name := "rbspExamples", fn := fun _ => fun
  | [] => { results := [.lit (.bool false)], args := [] }
  | _ => none }
def RbspExamplesWrongFalsely : Prop := rbspExamplesRow.holds Try.pinned (OpenSpec.ofChange rbspExamplesWrong)

/-- 'spindlelaw05.RbspOnly': WHATEVER THE INPUT: true; the input reads as it did. -/
def rbspOnlySpec : ChangeSpec := { name := "rbspOnly", fn := fun _ => fun
  | [d1, d2] => { results := [.lit (.bool true)], args := [d1, d2] }
  | _ => none }
def rbspOnlyRow : OpenClaim := { program := "ytlckjjgamnphbaa", sum := "344d59ed5a6170b25a56f32a1edb0bf8736f57019667627138c1a6f9fb140514", func := "spindle/spindlelaw05.RbspOnly", spec := "rbspOnly", unfollowed := true, recurses := true, apart := false }
def RbspOnlySaid : Prop := rbspOnlyRow.holds Try.pinned (OpenSpec.ofChange rbspOnlySpec)

/-- ITS FALSE NEIGHBOUR: 'it returns false'. Refute it at one input. -/
def rbspOnlyWrong : ChangeSpec := { name := "rbspOnly", fn := fun _ => fun
  | [d1, d2] => { results := [.lit (.bool false)], args := [d1, d2] }
  | _ => none }
def RbspOnlyWrongFalsely : Prop := rbspOnlyRow.holds Try.pinned (OpenSpec.ofChange rbspOnlyWrong)

/-- 'spindlelaw05.RbspReads': WHATEVER THE INPUT: true; the input reads as it did. -/
def rbspReadsSpec : ChangeSpec := { name := "rbspReads", fn := fun _ => fun
  | [d1, d2, d3] => { results := [.lit (.bool true)], args := [d1, d2, d3] }
  | _ => none }
def rbspReadsRow : OpenClaim := { program := "ytlckjjgamnphbaa", sum := "344d59ed5a6170b25a56f32a1edb0bf8736f57019667627138c1a6f9fb140514", func := "spindle/spindlelaw05.RbspReads", spec := "rbspReads", unfollowed := true, recurses := true, apart := false }
def RbspReadsSaid : Prop := rbspReadsRow.holds Try.pinned (OpenSpec.ofChange rbspReadsSpec)

/-- ITS FALSE NEIGHBOUR: 'it returns false'. Refute it at one input. -/
def rbspReadsWrong : ChangeSpec := { name := "rbspReads", fn := fun _ => fun
  | [d1, d2, d3] => { results := [.lit (.bool false)], args := [d1, d2, d3] }
  | _ => none }
def RbspReadsWrongFalsely : Prop := rbspReadsRow.holds Try.pinned (OpenSpec.ofChange rbspReadsWrong)

/-- 'spindlelaw05.RbspBack': WHATEVER THE INPUT: true; the input reads as it did. -/
def rbspBackSpec : ChangeSpec := { name := "rbspBack", fn := fun _ => fun
  | [d1, d2, d3] => { results := [.lit (.bool true)], args := [d1, d2, d3] }
  | _ => none }
def rbspBackRow : OpenClaim := { program := "ytlckjjgamnphbaa", sum := "344d59ed5a6170b25a56f32a1edb0bf8736f57019667627138c1a6f9fb140514", func := "spindle/spindlelaw05.RbspBack", spec := "rbspBack", unfollowed := true, recurses := true, apart := false }
def RbspBackSaid : Prop := rbspBackRow.holds Try.pinned (OpenSpec.ofChange rbspBackSpec)

/-- ITS FALSE NEIGHBOUR: 'it returns false'. Refute it at one input. -/
def rbspBackWrong : ChangeSpec := { name := "rbspBack", fn := fun _ => fun
  | [d1, d2, d3] => { results := [.lit (.bool false)], args := [d1, d2, d3] }
  | _ => none }
def RbspBackWrongFalsely : Prop := rbspBackRow.holds Try.pinned (OpenSpec.ofChange rbspBackWrong)

/-- 'spindlelaw05.RbspMore': WHATEVER THE INPUT: true; the input reads as it did. -/
def rbspMoreSpec : ChangeSpec := { name := "rbspMore", fn := fun _ => fun
  | [d1, d2] => { results := [.lit (.bool true)], args := [d1, d2] }
  | _ => none }
def rbspMoreRow : OpenClaim := { program := "ytlckjjgamnphbaa", sum := "344d59ed5a6170b25a56f32a1edb0bf8736f57019667627138c1a6f9fb140514", func := "spindle/spindlelaw05.RbspMore", spec := "rbspMore", unfollowed := true, recurses := true, apart := false }
def RbspMoreSaid : Prop := rbspMoreRow.holds Try.pinned (OpenSpec.ofChange rbspMoreSpec)

/-- ITS FALSE NEIGHBOUR: 'it returns false'. Refute it at one input. -/
def rbspMoreWrong : ChangeSpec := { name := "rbspMore", fn := fun _ => fun
  | [d1, d2] => { results := [.lit (.bool false)], args := [d1, d2] }
  | _ => none }
def RbspMoreWrongFalsely : Prop := rbspMoreRow.holds Try.pinned (OpenSpec.ofChange rbspMoreWrong)

/-- 'spindlelaw05.RbspTrails': WHATEVER THE INPUT: true; the input reads as it did. -/
def rbspTrailsSpec : ChangeSpec := { name := "rbspTrails", fn := fun _ => fun
  | [d1, d2] => { results := [.lit (.bool true)], args := [d1, d2] }
  | _ => none }
def rbspTrailsRow : OpenClaim := { program := "ytlckjjgamnphbaa", sum := "344d59ed5a6170b25a56f32a1edb0bf8736f57019667627138c1a6f9fb140514", func := "spindle/spindlelaw05.RbspTrails", spec := "rbspTrails", unfollowed := true, recurses := true, apart := false }
def RbspTrailsSaid : Prop := rbspTrailsRow.holds Try.pinned (OpenSpec.ofChange rbspTrailsSpec)

/-- ITS FALSE NEIGHBOUR: 'it returns false'. Refute it at one input. -/
def rbspTrailsWrong : ChangeSpec := { name := "rbspTrails", fn := fun _ => fun
  | [d1, d2] => { results := [.lit (.bool false)], args := [d1, d2] }
  | _ => none }
def RbspTrailsWrongFalsely : Prop := rbspTrailsRow.holds Try.pinned (OpenSpec.ofChange rbspTrailsWrong)

/- THE SECOND FORM. 'bulk': how many values and letters a reading holds, each counted each time it is reached (what is shared counts as often as it is met; a slice's spare places count too). A statement '..UptoSaid' is the law's where the arguments, and the package variables that the reading takes, are together of bulk at most 1048576: NARROWER than '..Said'. Prove '..Said' where nothing that the law and all that it calls make is longer than what came in: it says more and counts as full. Else prove '..UptoSaid'. A law counts once. -/
mutual
def uptoBulk {H : Type} : DataW H → Nat
  | .lit (.string bytes) => bytes.length + 1
  | .lit _ => 1
  | .nil => 1
  | .ptr d => uptoBulk d + 1
  | .slice elems spare => uptoBulkAll elems + uptoBulkAll spare + 1
  | .agg parts => uptoBulkAll parts + 1
  | .iface _ d => uptoBulk d + 1
  | .map entries => uptoBulkEntries entries + 1
  | .held _ => 1
def uptoBulkAll {H : Type} : List (DataW H) → Nat
  | [] => 0
  | d :: r => uptoBulk d + uptoBulkAll r
def uptoBulkEntries {H : Type} : List (Lit × DataW H) → Nat
  | [] => 0
  | x :: r => uptoBulkEntry x + uptoBulkEntries r
def uptoBulkEntry {H : Type} : Lit × DataW H → Nat
  | (.string bytes, d) => bytes.length + uptoBulk d + 1
  | (_, d) => uptoBulk d + 1
 end
def uptoSmall : (H : Type) → List (DataW H) → Bool := fun _ ds => decide (uptoBulkAll ds ≤ 1048576)
def OpenSpec.upto (s : _root_.Go.ChangeSpec) : _root_.Go.OpenSpec := { _root_.Go.OpenSpec.ofChange s with cond := some uptoSmall }

/-- 'spindlelaw05.RbspExamples', WHERE WHAT IT READS IS OF BULK AT MOST 1048576: true; the input reads as it did. -/
def rbspExamplesUptoRow : OpenClaim := { program := "ytlckjjgamnphbaa", sum := "344d59ed5a6170b25a56f32a1edb0bf8736f57019667627138c1a6f9fb140514", func := "spindle/spindlelaw05.RbspExamples", spec := "rbspExamples", unfollowed := true, recurses := true, apart := false, narrowed := true }
def RbspExamplesUptoSaid : Prop := rbspExamplesUptoRow.holds Try.pinned (OpenSpec.upto rbspExamplesSpec)

/-- 'spindlelaw05.RbspOnly', WHERE WHAT IT READS IS OF BULK AT MOST 1048576: true; the input reads as it did. -/
def rbspOnlyUptoRow : OpenClaim := { program := "ytlckjjgamnphbaa", sum := "344d59ed5a6170b25a56f32a1edb0bf8736f57019667627138c1a6f9fb140514", func := "spindle/spindlelaw05.RbspOnly", spec := "rbspOnly", unfollowed := true, recurses := true, apart := false, narrowed := true }
def RbspOnlyUptoSaid : Prop := rbspOnlyUptoRow.holds Try.pinned (OpenSpec.upto rbspOnlySpec)

/-- 'spindlelaw05.RbspReads', WHERE WHAT IT READS IS OF BULK AT MOST 1048576: true; the input reads as it did. -/
def rbspReadsUptoRow : OpenClaim := { program := "ytlckjjgamnphbaa", sum := "344d59ed5a6170b25a56f32a1edb0bf8736f57019667627138c1a6f9fb140514", func := "spindle/spindlelaw05.RbspReads", spec := "rbspReads", unfollowed := true, recurses := true, apart := false, narrowed := true }
def RbspReadsUptoSaid : Prop := rbspReadsUptoRow.holds Try.pinned (OpenSpec.upto rbspReadsSpec)

/-- 'spindlelaw05.RbspBack', WHERE WHAT IT READS IS OF BULK AT MOST 1048576: true; the input reads as it did. -/
def rbspBackUptoRow : OpenClaim := { program := "ytlckjjgamnphbaa", sum := "344d59ed5a6170b25a56f32a1edb0bf8736f57019667627138c1a6f9fb140514", func := "spindle/spindlelaw05.RbspBack", spec := "rbspBack", unfollowed := true, recurses := true, apart := false, narrowed := true }
def RbspBackUptoSaid : Prop := rbspBackUptoRow.holds Try.pinned (OpenSpec.upto rbspBackSpec)

/-- 'spindlelaw05.RbspMore', WHERE WHAT IT READS IS OF BULK AT MOST 1048576: true; the input reads as it did. -/
def rbspMoreUptoRow : OpenClaim := { program := "ytlckjjgamnphbaa", sum := "344d59ed5a6170b25a56f32a1edb0bf8736f57019667627138c1a6f9fb140514", func := "spindle/spindlelaw05.RbspMore", spec := "rbspMore", unfollowed := true, recurses := true, apart := false, narrowed := true }
def RbspMoreUptoSaid : Prop := rbspMoreUptoRow.holds Try.pinned (OpenSpec.upto rbspMoreSpec)

/-- 'spindlelaw05.RbspTrails', WHERE WHAT IT READS IS OF BULK AT MOST 1048576: true; the input reads as it did. -/
def rbspTrailsUptoRow : OpenClaim := { program := "ytlckjjgamnphbaa", sum := "344d59ed5a6170b25a56f32a1edb0bf8736f57019667627138c1a6f9fb140514", func := "spindle/spindlelaw05.RbspTrails", spec := "rbspTrails", unfollowed := true, recurses := true, apart := false, narrowed := true }
def RbspTrailsUptoSaid : Prop := rbspTrailsUptoRow.holds Try.pinned (OpenSpec.upto rbspTrailsSpec)

end Rows
end Go.Proofs.Ytlckjjgamnphbaa
