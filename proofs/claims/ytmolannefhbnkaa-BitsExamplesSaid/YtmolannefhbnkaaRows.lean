/-
  No cell of these rows narrows 'for every input' (looked for: loops, veiled, ifaces, maps, wideKeys, modest, calm, conditions, laid).
  DERIVED. THE GIVEN ROWS OF THIS SEAT. 8 by the template 'for every input the law returns true; each argument reads behind the call as it read before'; 0 by the template 'total and deterministic' (their statements: YtmolannefhbnkaaTotals.lean).
  GIVEN WITH THE SEED: the statements are not yours to turn. If you find one false, say at which input.
  Laid BY PROGRAM, IN A SANDBOX (cutbox-rows.mjs): the forced cells as the released guide's own fill.sh prints them over the translation 902d0178ce7a5ca7… (all of the seat's roots in one cut). By AI agents, Wed Nov 11 2026. No macro, syntax, notation, axiom, sorry.
-/
import Derived.Test.YtmolannefhbnkaaChecked
import GoSem.Claim
import GoSem.ClaimJoined
import GoSem.ClaimMapViews
import Derived.JoinedTies
import Derived.KernelRfl
namespace Go.Proofs.Ytmolannefhbnkaa
/- THE CELL 'sum', in the pinned program and in every row, IS THE sha256 OF THE DUMP (.gsa) THAT YtmolannefhbnkaaProg.lean LOADS. Nothing in Lean hashes anything: it is a label: what it is worth is what the hold of that sum in a sandbox is worth. -/
noncomputable def Try.pinned : Pinned := { name := "ytmolannefhbnkaa", sum := "902d0178ce7a5ca71fb49b74dc22fcbc7502b0d235fc59d94d46d885f4ddda5d", checked := Try.checked }
namespace Rows
def none {H : Type} : Left H := { results := [], args := [] }

/-- 'spindlelaw01.BitsWrites': WHATEVER THE INPUT: true; the input reads as it did. -/
def bitsWritesSpec : ChangeSpec := { name := "bitsWrites", fn := fun _ => fun
  | [d] => { results := [.lit (.bool true)], args := [d] }
  | _ => none }
def bitsWritesRow : OpenClaim := { program := "ytmolannefhbnkaa", sum := "902d0178ce7a5ca71fb49b74dc22fcbc7502b0d235fc59d94d46d885f4ddda5d", func := "spindle/spindlelaw01.BitsWrites", spec := "bitsWrites", apart := false }
def BitsWritesSaid : Prop := bitsWritesRow.holds Try.pinned (OpenSpec.ofChange bitsWritesSpec)

/-- ITS FALSE NEIGHBOUR: 'it returns false'. Refute it at one input. -/
def bitsWritesWrong : ChangeSpec := { name := "bitsWrites", fn := fun _ => fun
  | [d] => { results := [.lit (.bool false)], args := [d] }
  | _ => none }
def BitsWritesWrongFalsely : Prop := bitsWritesRow.holds Try.pinned (OpenSpec.ofChange bitsWritesWrong)

/-- 'spindlelaw01.BitsBack': WHATEVER THE INPUT: true; the input reads as it did. -/
def bitsBackSpec : ChangeSpec := { name := "bitsBack", fn := fun _ => fun
  | [d] => { results := [.lit (.bool true)], args := [d] }
  | _ => none }
def bitsBackRow : OpenClaim := { program := "ytmolannefhbnkaa", sum := "902d0178ce7a5ca71fb49b74dc22fcbc7502b0d235fc59d94d46d885f4ddda5d", func := "spindle/spindlelaw01.BitsBack", spec := "bitsBack", apart := false }
def BitsBackSaid : Prop := bitsBackRow.holds Try.pinned (OpenSpec.ofChange bitsBackSpec)

/-- ITS FALSE NEIGHBOUR: 'it returns false'. Refute it at one input. -/
def bitsBackWrong : ChangeSpec := { name := "bitsBack", fn := fun _ => fun
  | [d] => { results := [.lit (.bool false)], args := [d] }
  | _ => none }
def BitsBackWrongFalsely : Prop := bitsBackRow.holds Try.pinned (OpenSpec.ofChange bitsBackWrong)

/-- 'spindlelaw01.BitsErrors': WHATEVER THE INPUT: true; the input reads as it did. -/
def bitsErrorsSpec : ChangeSpec := { name := "bitsErrors", fn := fun _ => fun
  | [d1, d2] => { results := [.lit (.bool true)], args := [d1, d2] }
  | _ => none }
def bitsErrorsRow : OpenClaim := { program := "ytmolannefhbnkaa", sum := "902d0178ce7a5ca71fb49b74dc22fcbc7502b0d235fc59d94d46d885f4ddda5d", func := "spindle/spindlelaw01.BitsErrors", spec := "bitsErrors", apart := false }
def BitsErrorsSaid : Prop := bitsErrorsRow.holds Try.pinned (OpenSpec.ofChange bitsErrorsSpec)

/-- ITS FALSE NEIGHBOUR: 'it returns false'. Refute it at one input. -/
def bitsErrorsWrong : ChangeSpec := { name := "bitsErrors", fn := fun _ => fun
  | [d1, d2] => { results := [.lit (.bool false)], args := [d1, d2] }
  | _ => none }
def BitsErrorsWrongFalsely : Prop := bitsErrorsRow.holds Try.pinned (OpenSpec.ofChange bitsErrorsWrong)

/-- 'spindlelaw01.BitsBytes': WHATEVER THE INPUT: true; the input reads as it did. -/
def bitsBytesSpec : ChangeSpec := { name := "bitsBytes", fn := fun _ => fun
  | [d] => { results := [.lit (.bool true)], args := [d] }
  | _ => none }
def bitsBytesRow : OpenClaim := { program := "ytmolannefhbnkaa", sum := "902d0178ce7a5ca71fb49b74dc22fcbc7502b0d235fc59d94d46d885f4ddda5d", func := "spindle/spindlelaw01.BitsBytes", spec := "bitsBytes", apart := false }
def BitsBytesSaid : Prop := bitsBytesRow.holds Try.pinned (OpenSpec.ofChange bitsBytesSpec)

/-- ITS FALSE NEIGHBOUR: 'it returns false'. Refute it at one input. -/
def bitsBytesWrong : ChangeSpec := { name := "bitsBytes", fn := fun _ => fun
  | [d] => { results := [.lit (.bool false)], args := [d] }
  | _ => none }
def BitsBytesWrongFalsely : Prop := bitsBytesRow.holds Try.pinned (OpenSpec.ofChange bitsBytesWrong)

/-- 'spindlelaw01.BitsReads': WHATEVER THE INPUT: true; the input reads as it did. -/
def bitsReadsSpec : ChangeSpec := { name := "bitsReads", fn := fun _ => fun
  | [d1, d2] => { results := [.lit (.bool true)], args := [d1, d2] }
  | _ => none }
def bitsReadsRow : OpenClaim := { program := "ytmolannefhbnkaa", sum := "902d0178ce7a5ca71fb49b74dc22fcbc7502b0d235fc59d94d46d885f4ddda5d", func := "spindle/spindlelaw01.BitsReads", spec := "bitsReads", apart := false }
def BitsReadsSaid : Prop := bitsReadsRow.holds Try.pinned (OpenSpec.ofChange bitsReadsSpec)

/-- ITS FALSE NEIGHBOUR: 'it returns false'. Refute it at one input. -/
def bitsReadsWrong : ChangeSpec := { name := "bitsReads", fn := fun _ => fun
  | [d1, d2] => { results := [.lit (.bool false)], args := [d1, d2] }
  | _ => none }
def BitsReadsWrongFalsely : Prop := bitsReadsRow.holds Try.pinned (OpenSpec.ofChange bitsReadsWrong)

/-- 'spindlelaw01.BitsExamples': WHATEVER THE INPUT: true; the input reads as it did. -/
def bitsExamplesSpec : ChangeSpec := { name := "bitsExamples", fn := fun _ => fun
  | [] => { results := [.lit (.bool true)], args := [] }
  | _ => none }
def bitsExamplesRow : OpenClaim := { program := "ytmolannefhbnkaa", sum := "902d0178ce7a5ca71fb49b74dc22fcbc7502b0d235fc59d94d46d885f4ddda5d", func := "spindle/spindlelaw01.BitsExamples", spec := "bitsExamples", apart := false }
def BitsExamplesSaid : Prop := bitsExamplesRow.holds Try.pinned (OpenSpec.ofChange bitsExamplesSpec)

/-- ITS FALSE NEIGHBOUR: 'it returns false'. Refute it at one input. -/
def bitsExamplesWrong : ChangeSpec := { name := "bitsExamples", fn := fun _ => fun
  | [] => { results := [.lit (.bool false)], args := [] }
  | _ => none }
def BitsExamplesWrongFalsely : Prop := bitsExamplesRow.holds Try.pinned (OpenSpec.ofChange bitsExamplesWrong)

/-- 'spindlelaw01.BitsSplits': WHATEVER THE INPUT: true; the input reads as it did. -/
def bitsSplitsSpec : ChangeSpec := { name := "bitsSplits", fn := fun _ => fun
  | [d1, d2, d3, d4] => { results := [.lit (.bool true)], args := [d1, d2, d3, d4] }
  | _ => none }
def bitsSplitsRow : OpenClaim := { program := "ytmolannefhbnkaa", sum := "902d0178ce7a5ca71fb49b74dc22fcbc7502b0d235fc59d94d46d885f4ddda5d", func := "spindle/spindlelaw01.BitsSplits", spec := "bitsSplits", apart := false }
def BitsSplitsSaid : Prop := bitsSplitsRow.holds Try.pinned (OpenSpec.ofChange bitsSplitsSpec)

/-- ITS FALSE NEIGHBOUR: 'it returns false'. Refute it at one input. -/
def bitsSplitsWrong : ChangeSpec := { name := "bitsSplits", fn := fun _ => fun
  | [d1, d2, d3, d4] => { results := [.lit (.bool false)], args := [d1, d2, d3, d4] }
  | _ => none }
def BitsSplitsWrongFalsely : Prop := bitsSplitsRow.holds Try.pinned (OpenSpec.ofChange bitsSplitsWrong)

/-- 'spindlelaw01.BitsCopies': WHATEVER THE INPUT: true; the input reads as it did. -/
def bitsCopiesSpec : ChangeSpec := { name := "bitsCopies", fn := fun _ => fun
  | [d1, d2, d3] => { results := [.lit (.bool true)], args := [d1, d2, d3] }
  | _ => none }
def bitsCopiesRow : OpenClaim := { program := "ytmolannefhbnkaa", sum := "902d0178ce7a5ca71fb49b74dc22fcbc7502b0d235fc59d94d46d885f4ddda5d", func := "spindle/spindlelaw01.BitsCopies", spec := "bitsCopies", apart := false }
def BitsCopiesSaid : Prop := bitsCopiesRow.holds Try.pinned (OpenSpec.ofChange bitsCopiesSpec)

/-- ITS FALSE NEIGHBOUR: 'it returns false'. Refute it at one input. -/
def bitsCopiesWrong : ChangeSpec := { name := "bitsCopies", fn := fun _ => fun
  | [d1, d2, d3] => { results := [.lit (.bool false)], args := [d1, d2, d3] }
  | _ => none }
def BitsCopiesWrongFalsely : Prop := bitsCopiesRow.holds Try.pinned (OpenSpec.ofChange bitsCopiesWrong)

/- THE SECOND FORM. 'bulk': how many values and letters a reading holds, each counted each time it is reached (what is shared counts as often as it is met; a slice's spare places count too). A statement '..UptoSaid' is the law's where the arguments, and the package variables that the reading takes, are together of bulk at most 1048576: NARROWER than '..Said'. Prove '..Said' where nothing that the law and all that it calls make is longer than what came in: it says more and counts as full. Else prove '..UptoSaid'. A law counts once. -/
mutual
def uptoBulk {H : Type} : DataW H → Nat
  | .lit (.string bytes) => bytes.length + 1
  | .lit _ => 1
  | .nil => 1
  | .ptr d => uptoBulk d + 1
  | .slice elems spare => uptoBulkAll elems + uptoBulkAll spare + 1
  | .agg parts => uptoBulkAll parts + 1
  | .iface _ d => uptoBulk d + 1
  | .map entries => uptoBulkEntries entries + 1
  | .held _ => 1
def uptoBulkAll {H : Type} : List (DataW H) → Nat
  | [] => 0
  | d :: r => uptoBulk d + uptoBulkAll r
def uptoBulkEntries {H : Type} : List (Lit × DataW H) → Nat
  | [] => 0
  | x :: r => uptoBulkEntry x + uptoBulkEntries r
def uptoBulkEntry {H : Type} : Lit × DataW H → Nat
  | (.string bytes, d) => bytes.length + uptoBulk d + 1
  | (_, d) => uptoBulk d + 1
 end
def uptoSmall : (H : Type) → List (DataW H) → Bool := fun _ ds => decide (uptoBulkAll ds ≤ 1048576)
def OpenSpec.upto (s : _root_.Go.ChangeSpec) : _root_.Go.OpenSpec := { _root_.Go.OpenSpec.ofChange s with cond := some uptoSmall }

/-- 'spindlelaw01.BitsWrites', WHERE WHAT IT READS IS OF BULK AT MOST 1048576: true; the input reads as it did. -/
def bitsWritesUptoRow : OpenClaim := { program := "ytmolannefhbnkaa", sum := "902d0178ce7a5ca71fb49b74dc22fcbc7502b0d235fc59d94d46d885f4ddda5d", func := "spindle/spindlelaw01.BitsWrites", spec := "bitsWrites", apart := false, narrowed := true }
def BitsWritesUptoSaid : Prop := bitsWritesUptoRow.holds Try.pinned (OpenSpec.upto bitsWritesSpec)

/-- 'spindlelaw01.BitsBack', WHERE WHAT IT READS IS OF BULK AT MOST 1048576: true; the input reads as it did. -/
def bitsBackUptoRow : OpenClaim := { program := "ytmolannefhbnkaa", sum := "902d0178ce7a5ca71fb49b74dc22fcbc7502b0d235fc59d94d46d885f4ddda5d", func := "spindle/spindlelaw01.BitsBack", spec := "bitsBack", apart := false, narrowed := true }
def BitsBackUptoSaid : Prop := bitsBackUptoRow.holds Try.pinned (OpenSpec.upto bitsBackSpec)

/-- 'spindlelaw01.BitsErrors', WHERE WHAT IT READS IS OF BULK AT MOST 1048576: true; the input reads as it did. -/
def bitsErrorsUptoRow : OpenClaim := { program := "ytmolannefhbnkaa", sum := "902d0178ce7a5ca71fb49b74dc22fcbc7502b0d235fc59d94d46d885f4ddda5d", func := "spindle/spindlelaw01.BitsErrors", spec := "bitsErrors", apart := false, narrowed := true }
def BitsErrorsUptoSaid : Prop := bitsErrorsUptoRow.holds Try.pinned (OpenSpec.upto bitsErrorsSpec)

/-- 'spindlelaw01.BitsBytes', WHERE WHAT IT READS IS OF BULK AT MOST 1048576: true; the input reads as it did. -/
def bitsBytesUptoRow : OpenClaim := { program := "ytmolannefhbnkaa", sum := "902d0178ce7a5ca71fb49b74dc22fcbc7502b0d235fc59d94d46d885f4ddda5d", func := "spindle/spindlelaw01.BitsBytes", spec := "bitsBytes", apart := false, narrowed := true }
def BitsBytesUptoSaid : Prop := bitsBytesUptoRow.holds Try.pinned (OpenSpec.upto bitsBytesSpec)

/-- 'spindlelaw01.BitsReads', WHERE WHAT IT READS IS OF BULK AT MOST 1048576: true; the input reads as it did. -/
def bitsReadsUptoRow : OpenClaim := { program := "ytmolannefhbnkaa", sum := "902d0178ce7a5ca71fb49b74dc22fcbc7502b0d235fc59d94d46d885f4ddda5d", func := "spindle/spindlelaw01.BitsReads", spec := "bitsReads", apart := false, narrowed := true }
def BitsReadsUptoSaid : Prop := bitsReadsUptoRow.holds Try.pinned (OpenSpec.upto bitsReadsSpec)

/-- 'spindlelaw01.BitsExamples', WHERE WHAT IT READS IS OF BULK AT MOST 1048576: true; the input reads as it did. -/
def bitsExamplesUptoRow : OpenClaim := { program := "ytmolannefhbnkaa", sum := "902d0178ce7a5ca71fb49b74dc22fcbc7502b0d235fc59d94d46d885f4ddda5d", func := "spindle/spindlelaw01.BitsExamples", spec := "bitsExamples", apart := false, narrowed := true }
def BitsExamplesUptoSaid : Prop := bitsExamplesUptoRow.holds Try.pinned (OpenSpec.upto bitsExamplesSpec)

/-- 'spindlelaw01.BitsSplits', WHERE WHAT IT READS IS OF BULK AT MOST 1048576: true; the input reads as it did. -/
def bitsSplitsUptoRow : OpenClaim := { program := "ytmolannefhbnkaa", sum := "902d0178ce7a5ca71fb49b74dc22fcbc7502b0d235fc59d94d46d885f4ddda5d", func := "spindle/spindlelaw01.BitsSplits", spec := "bitsSplits", apart := false, narrowed := true }
def BitsSplitsUptoSaid : Prop := bitsSplitsUptoRow.holds Try.pinned (OpenSpec.upto bitsSplitsSpec)

/-- 'spindlelaw01.BitsCopies', WHERE WHAT IT READS IS OF BULK AT MOST 1048576: true; the input reads as it did. -/
def bitsCopiesUptoRow : OpenClaim := { program := "ytmolannefhbnkaa", sum := "902d0178ce7a5ca71fb49b74dc22fcbc7502b0d235fc59d94d46d885f4ddda5d", func := "spindle/spindlelaw01.BitsCopies", spec := "bitsCopies", apart := false, narrowed := true }
def BitsCopiesUptoSaid : Prop := bitsCopiesUptoRow.holds Try.pinned (OpenSpec.upto bitsCopiesSpec)

end Rows
end Go.Proofs.Ytmolannefhbnkaa
