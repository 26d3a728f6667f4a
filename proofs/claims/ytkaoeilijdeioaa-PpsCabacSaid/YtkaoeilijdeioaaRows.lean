/-
  No cell of these rows narrows 'for every input' (looked for: loops, veiled, ifaces, maps, wideKeys, modest, calm, conditions, laid).
  DERIVED. THE GIVEN ROWS OF THIS SEAT. 6 by the template 'for every input the law returns true; each argument reads behind the call as it read before'; 0 by the template 'total and deterministic' (their statements: YtkaoeilijdeioaaTotals.lean).
  GIVEN WITH THE SEED: the statements are not yours to turn. If you find one false, say at which input.
  Laid BY PROGRAM, IN A SANDBOX (cutbox-rows.mjs): the forced cells as the released guide's own fill.sh prints them over the translation b043a892ba633b0d… (all of the seat's roots in one cut). By AI agents, Wed Nov 11 2026. No macro, syntax, notation, axiom, sorry.
-/
import Derived.Test.YtkaoeilijdeioaaChecked
import GoSem.Claim
import GoSem.ClaimJoined
import GoSem.ClaimMapViews
import Derived.JoinedTies
import Derived.KernelRfl
namespace Go.Proofs.Ytkaoeilijdeioaa
/- THE CELL 'sum', in the pinned program and in every row, IS THE sha256 OF THE DUMP (.gsa) THAT YtkaoeilijdeioaaProg.lean LOADS. Nothing in Lean hashes anything: it is a label: what it is worth is what the hold of that sum in a sandbox is worth. -/
noncomputable def Try.pinned : Pinned := { name := "ytkaoeilijdeioaa", sum := "b043a892ba633b0d66d3e863735eadb9c48abb125b80db4b8542cb4d771aa019", checked := Try.checked }
namespace Rows
def none {H : Type} : Left H := { results := [], args := [] }

/-- 'spindlelaw07.PpsMatches': WHATEVER THE INPUT: true; the input reads as it did. -/
def ppsMatchesSpec : ChangeSpec := { name := "ppsMatches", fn := fun _ => fun
  | [d] => { results := [.lit (.bool true)], args := [d] }
  | _ => none }
def ppsMatchesRow : OpenClaim := { program := "ytkaoeilijdeioaa", sum := "b043a892ba633b0d66d3e863735eadb9c48abb125b80db4b8542cb4d771aa019", func := "spindle/spindlelaw07.PpsMatches", spec := "ppsMatches", unfollowed := true, recurses := true, apart := false }
def PpsMatchesSaid : Prop := ppsMatchesRow.holds Try.pinned (OpenSpec.ofChange ppsMatchesSpec)

/-- ITS FALSE NEIGHBOUR: 'it returns false'. Refute it at one input. -/
def ppsMatchesWrong : ChangeSpec := { name := "ppsMatches", fn := fun _ => fun
  | [d] => { results := [.lit (.bool false)], args := [d] }
  | _ => none }
def PpsMatchesWrongFalsely : Prop := ppsMatchesRow.holds Try.pinned (OpenSpec.ofChange ppsMatchesWrong)

/-- 'spindlelaw07.PpsReads': WHATEVER THE INPUT: true; the input reads as it did. -/
def ppsReadsSpec : ChangeSpec := { name := "ppsReads", fn := fun _ => fun
  | [d] => { results := [.lit (.bool true)], args := [d] }
  | _ => none }
def ppsReadsRow : OpenClaim := { program := "ytkaoeilijdeioaa", sum := "b043a892ba633b0d66d3e863735eadb9c48abb125b80db4b8542cb4d771aa019", func := "spindle/spindlelaw07.PpsReads", spec := "ppsReads", unfollowed := true, recurses := true, apart := false }
def PpsReadsSaid : Prop := ppsReadsRow.holds Try.pinned (OpenSpec.ofChange ppsReadsSpec)

/-- ITS FALSE NEIGHBOUR: 'it returns false'. Refute it at one input. -/
def ppsReadsWrong : ChangeSpec := { name := "ppsReads", fn := fun _ => fun
  | [d] => { results := [.lit (.bool false)], args := [d] }
  | _ => none }
def PpsReadsWrongFalsely : Prop := ppsReadsRow.holds Try.pinned (OpenSpec.ofChange ppsReadsWrong)

/-- 'spindlelaw07.PpsExamples': WHATEVER THE INPUT: true; the input reads as it did. -/
def ppsExamplesSpec : ChangeSpec := { name := "ppsExamples", fn := fun _ => fun
  | [] => { results := [.lit (.bool true)], args := [] }
  | _ => none }
def ppsExamplesRow : OpenClaim := { program := "ytkaoeilijdeioaa", sum := "b043a892ba633b0d66d3e863735eadb9c48abb125b80db4b8542cb4d771aa019", func := "spindle/spindlelaw07.PpsExamples", spec := "ppsExamples", unfollowed := true, recurses := true, apart := false }
def PpsExamplesSaid : Prop := ppsExamplesRow.holds Try.pinned (OpenSpec.ofChange ppsExamplesSpec)

/-- ITS FALSE NEIGHBOUR: 'it returns false'. Refute it at one input. -/
def ppsExamplesWrong : ChangeSpec := { name := "ppsExamples", fn := fun _ => fun
  | [] => { results := [.lit (.bool false)], args := [] }
  | _ => none }
def PpsExamplesWrongFalsely : Prop := ppsExamplesRow.holds Try.pinned (OpenSpec.ofChange ppsExamplesWrong)

/-- 'spindlelaw07.PpsBack': WHATEVER THE INPUT: true; the input reads as it did. -/
def ppsBackSpec : ChangeSpec := { name := "ppsBack", fn := fun _ => fun
  | [d1, d2] => { results := [.lit (.bool true)], args := [d1, d2] }
  | _ => none }
def ppsBackRow : OpenClaim := { program := "ytkaoeilijdeioaa", sum := "b043a892ba633b0d66d3e863735eadb9c48abb125b80db4b8542cb4d771aa019", func := "spindle/spindlelaw07.PpsBack", spec := "ppsBack", unfollowed := true, recurses := true, apart := false }
def PpsBackSaid : Prop := ppsBackRow.holds Try.pinned (OpenSpec.ofChange ppsBackSpec)

/-- ITS FALSE NEIGHBOUR: 'it returns false'. Refute it at one input. -/
def ppsBackWrong : ChangeSpec := { name := "ppsBack", fn := fun _ => fun
  | [d1, d2] => { results := [.lit (.bool false)], args := [d1, d2] }
  | _ => none }
def PpsBackWrongFalsely : Prop := ppsBackRow.holds Try.pinned (OpenSpec.ofChange ppsBackWrong)

/-- 'spindlelaw07.PpsApart': WHATEVER THE INPUT: true; the input reads as it did. -/
def ppsApartSpec : ChangeSpec := { name := "ppsApart", fn := fun _ => fun
  | [d1, d2] => { results := [.lit (.bool true)], args := [d1, d2] }
  | _ => none }
def ppsApartRow : OpenClaim := { program := "ytkaoeilijdeioaa", sum := "b043a892ba633b0d66d3e863735eadb9c48abb125b80db4b8542cb4d771aa019", func := "spindle/spindlelaw07.PpsApart", spec := "ppsApart", unfollowed := true, recurses := true, apart := false }
def PpsApartSaid : Prop := ppsApartRow.holds Try.pinned (OpenSpec.ofChange ppsApartSpec)

/-- ITS FALSE NEIGHBOUR: 'it returns false'. Refute it at one input. -/
def ppsApartWrong : ChangeSpec := { name := "ppsApart", fn := fun _ => fun
  | [d1, d2] => { results := [.lit (.bool false)], args := [d1, d2] }
  | _ => none }
def PpsApartWrongFalsely : Prop := ppsApartRow.holds Try.pinned (OpenSpec.ofChange ppsApartWrong)

/-- 'spindlelaw07.PpsCabac': WHATEVER THE INPUT: true; the input reads as it did. -/
def ppsCabacSpec : ChangeSpec := { name := "ppsCabac", fn := fun _ => fun
  | [d] => { results := [.lit (.bool true)], args := [d] }
  | _ => none }
def ppsCabacRow : OpenClaim := { program := "ytkaoeilijdeioaa", sum := "b043a892ba633b0d66d3e863735eadb9c48abb125b80db4b8542cb4d771aa019", func := "spindle/spindlelaw07.PpsCabac", spec := "ppsCabac", unfollowed := true, recurses := true, apart := false }
def PpsCabacSaid : Prop := ppsCabacRow.holds Try.pinned (OpenSpec.ofChange ppsCabacSpec)

/-- ITS FALSE NEIGHBOUR: 'it returns false'. Refute it at one input. -/
def ppsCabacWrong : ChangeSpec := { name := "ppsCabac", fn := fun _ => fun
  | [d] => { results := [.lit (.bool false)], args := [d] }
  | _ => none }
def PpsCabacWrongFalsely : Prop := ppsCabacRow.holds Try.pinned (OpenSpec.ofChange ppsCabacWrong)

/- THE SECOND FORM. 'bulk': how many values and letters a reading holds, each counted each time it is reached (what is shared counts as often as it is met; a slice's spare places count too). A statement '..UptoSaid' is the law's where the arguments, and the package variables that the reading takes, are together of bulk at most 1048576: NARROWER than '..Said'. Prove '..Said' where nothing that the law and all that it calls make is longer than what came in: it says more and counts as full. Else prove '..UptoSaid'. A law counts once. -/
mutual
def uptoBulk {H : Type} : DataW H → Nat
  | .lit (.string bytes) => bytes.length + 1
  | .lit _ => 1
  | .nil => 1
  | .ptr d => uptoBulk d + 1
  | .slice elems spare => uptoBulkAll elems + uptoBulkAll spare + 1
  | .agg parts => uptoBulkAll parts + 1
  | .iface _ d => uptoBulk d + 1
  | .map entries => uptoBulkEntries entries + 1
  | .held _ => 1
def uptoBulkAll {H : Type} : List (DataW H) → Nat
  | [] => 0
  | d :: r => uptoBulk d + uptoBulkAll r
def uptoBulkEntries {H : Type} : List (Lit × DataW H) → Nat
  | [] => 0
  | x :: r => uptoBulkEntry x + uptoBulkEntries r
def uptoBulkEntry {H : Type} : Lit × DataW H → Nat
  | (.string bytes, d) => bytes.length + uptoBulk d + 1
  | (_, d) => uptoBulk d + 1
 end
def uptoSmall : (H : Type) → List (DataW H) → Bool := fun _ ds => decide (uptoBulkAll ds ≤ 1048576)
def OpenSpec.upto (s : _root_.Go.ChangeSpec) : _root_.Go.OpenSpec := { _root_.Go.OpenSpec.ofChange s with cond := some uptoSmall }

/-- 'spindlelaw07.PpsMatches', WHERE WHAT IT READS IS OF BULK AT MOST 1048576: true; the input reads as it did. -/
def ppsMatchesUptoRow : OpenClaim := { program := "ytkaoeilijdeioaa", sum := "b043a892ba633b0d66d3e863735eadb9c48abb125b80db4b8542cb4d771aa019", func := "spindle/spindlelaw07.PpsMatches", spec := "ppsMatches", unfollowed := true, recurses := true, apart := false, narrowed := true }
def PpsMatchesUptoSaid : Prop := ppsMatchesUptoRow.holds Try.pinned (OpenSpec.upto ppsMatchesSpec)

/-- 'spindlelaw07.PpsReads', WHERE WHAT IT READS IS OF BULK AT MOST 1048576: true; the input reads as it did. -/
def ppsReadsUptoRow : OpenClaim := { program := "ytkaoeilijdeioaa", sum := "b043a892ba633b0d66d3e863735eadb9c48abb125b80db4b8542cb4d771aa019", func := "spindle/spindlelaw07.PpsReads", spec := "ppsReads", unfollowed := true, recurses := true, apart := false, narrowed := true }
def PpsReadsUptoSaid : Prop := ppsReadsUptoRow.holds Try.pinned (OpenSpec.upto ppsReadsSpec)

/-- 'spindlelaw07.PpsExamples', WHERE WHAT IT READS IS OF BULK AT MOST 1048576: true; the input reads as it did. -/
def ppsExamplesUptoRow : OpenClaim := { program := "ytkaoeilijdeioaa", sum := "b043a892ba633b0d66d3e863735eadb9c48abb125b80db4b8542cb4d771aa019", func := "spindle/spindlelaw07.PpsExamples", spec := "ppsExamples", unfollowed := true, recurses := true, apart := false, narrowed := true }
def PpsExamplesUptoSaid : Prop := ppsExamplesUptoRow.holds Try.pinned (OpenSpec.upto ppsExamplesSpec)

/-- 'spindlelaw07.PpsBack', WHERE WHAT IT READS IS OF BULK AT MOST 1048576: true; the input reads as it did. -/
def ppsBackUptoRow : OpenClaim := { program := "ytkaoeilijdeioaa", sum := "b043a892ba633b0d66d3e863735eadb9c48abb125b80db4b8542cb4d771aa019", func := "spindle/spindlelaw07.PpsBack", spec := "ppsBack", unfollowed := true, recurses := true, apart := false, narrowed := true }
def PpsBackUptoSaid : Prop := ppsBackUptoRow.holds Try.pinned (OpenSpec.upto ppsBackSpec)

/-- 'spindlelaw07.PpsApart', WHERE WHAT IT READS IS OF BULK AT MOST 1048576: true; the input reads as it did. -/
def ppsApartUptoRow : OpenClaim := { program := "ytkaoeilijdeioaa", sum := "b043a892ba633b0d66d3e863735eadb9c48abb125b80db4b8542cb4d771aa019", func := "spindle/spindlelaw07.PpsApart", spec := "ppsApart", unfollowed := true, recurses := true, apart := false, narrowed := true }
def PpsApartUptoSaid : Prop := ppsApartUptoRow.holds Try.pinned (OpenSpec.upto ppsApartSpec)

/-- 'spindlelaw07.PpsCabac', WHERE WHAT IT READS IS OF BULK AT MOST 1048576: true; the input reads as it did. -/
def ppsCabacUptoRow : OpenClaim := { program := "ytkaoeilijdeioaa", sum := "b043a892ba633b0d66d3e863735eadb9c48abb125b80db4b8542cb4d771aa019", func := "spindle/spindlelaw07.PpsCabac", spec := "ppsCabac", unfollowed := true, recurses := true, apart := false, narrowed := true }
def PpsCabacUptoSaid : Prop := ppsCabacUptoRow.holds Try.pinned (OpenSpec.upto ppsCabacSpec)

end Rows
end Go.Proofs.Ytkaoeilijdeioaa
