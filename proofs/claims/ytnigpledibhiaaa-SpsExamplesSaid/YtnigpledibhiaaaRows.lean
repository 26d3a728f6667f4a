/-
  No cell of these rows narrows 'for every input' (looked for: loops, veiled, ifaces, maps, wideKeys, modest, calm, conditions, laid).
  DERIVED. THE GIVEN ROWS OF THIS SEAT. 6 by the template 'for every input the law returns true; each argument reads behind the call as it read before'; 0 by the template 'total and deterministic' (their statements: YtnigpledibhiaaaTotals.lean).
  GIVEN WITH THE SEED: the statements are not yours to turn. If you find one false, say at which input.
  Laid BY PROGRAM, IN A SANDBOX (cutbox-rows.mjs): the forced cells as the released guide's own fill.sh prints them over the translation 2967a2b8c04c03e1… (all of the seat's roots in one cut). By AI agents, Wed Nov 11 2026. No macro, syntax, notation, axiom, sorry.
-/
import Derived.Test.YtnigpledibhiaaaChecked
import GoSem.Claim
import GoSem.ClaimJoined
import GoSem.ClaimMapViews
import Derived.JoinedTies
import Derived.KernelRfl
namespace Go.Proofs.Ytnigpledibhiaaa
/- THE CELL 'sum', in the pinned program and in every row, IS THE sha256 OF THE DUMP (.gsa) THAT YtnigpledibhiaaaProg.lean LOADS. Nothing in Lean hashes anything: it is a label: what it is worth is what the hold of that sum in a sandbox is worth. -/
noncomputable def Try.pinned : Pinned := { name := "ytnigpledibhiaaa", sum := "2967a2b8c04c03e193b01ae99d660940cc3f82b57c2003f23af8de421dcf6867", checked := Try.checked }
namespace Rows
def none {H : Type} : Left H := { results := [], args := [] }

/-- 'spindlelaw06.SpsMatches': WHATEVER THE INPUT: true; the input reads as it did. -/
def spsMatchesSpec : ChangeSpec := { name := "spsMatches", fn := fun _ => fun
  | [d] => { results := [.lit (.bool true)], args := [d] }
  | _ => none }
def spsMatchesRow : OpenClaim := { program := "ytnigpledibhiaaa", sum := "2967a2b8c04c03e193b01ae99d660940cc3f82b57c2003f23af8de421dcf6867", func := "spindle/spindlelaw06.SpsMatches", spec := "spsMatches", unfollowed := true, recurses := true, apart := false }
def SpsMatchesSaid : Prop := spsMatchesRow.holds Try.pinned (OpenSpec.ofChange spsMatchesSpec)

/-- ITS FALSE NEIGHBOUR: 'it returns false'. Refute it at one input. -/
def spsMatchesWrong : ChangeSpec := { name := "spsMatches", fn := fun _ => fun
  | [d] => { results := [.lit (.bool false)], args := [d] }
  | _ => none }
def SpsMatchesWrongFalsely : Prop := spsMatchesRow.holds Try.pinned (OpenSpec.ofChange spsMatchesWrong)

/-- 'spindlelaw06.SpsReads': WHATEVER THE INPUT: true; the input reads as it did. -/
def spsReadsSpec : ChangeSpec := { name := "spsReads", fn := fun _ => fun
  | [d] => { results := [.lit (.bool true)], args := [d] }
  | _ => none }
def spsReadsRow : OpenClaim := { program := "ytnigpledibhiaaa", sum := "2967a2b8c04c03e193b01ae99d660940cc3f82b57c2003f23af8de421dcf6867", func := "spindle/spindlelaw06.SpsReads", spec := "spsReads", unfollowed := true, recurses := true, apart := false }
def SpsReadsSaid : Prop := spsReadsRow.holds Try.pinned (OpenSpec.ofChange spsReadsSpec)

/-- ITS FALSE NEIGHBOUR: 'it returns false'. Refute it at one input. -/
def spsReadsWrong : ChangeSpec := { name := "spsReads", fn := fun _ => fun
  | [d] => { results := [.lit (.bool false)], args := [d] }
  | _ => none }
def SpsReadsWrongFalsely : Prop := spsReadsRow.holds Try.pinned (OpenSpec.ofChange spsReadsWrong)

/-- 'spindlelaw06.SpsExamples': WHATEVER THE INPUT: true; the input reads as it did. -/
def spsExamplesSpec : ChangeSpec := { name := "spsExamples", fn := fun _ => fun
  | [] => { results := [.lit (.bool true)], args := [] }
  | _ => none }
def spsExamplesRow : OpenClaim := { program := "ytnigpledibhiaaa", sum := "2967a2b8c04c03e193b01ae99d660940cc3f82b57c2003f23af8de421dcf6867", func := "spindle/spindlelaw06.SpsExamples", spec := "spsExamples", unfollowed := true, recurses := true, apart := false }
def SpsExamplesSaid : Prop := spsExamplesRow.holds Try.pinned (OpenSpec.ofChange spsExamplesSpec)

/-- ITS FALSE NEIGHBOUR: 'it returns false'. Refute it at one input. -/
def spsExamplesWrong : ChangeSpec := { name := "spsExamples", fn := fun _ => fun
  | [] => { results := [.lit (.bool false)], args := [] }
  | _ => none }
def SpsExamplesWrongFalsely : Prop := spsExamplesRow.holds Try.pinned (OpenSpec.ofChange spsExamplesWrong)

/-- 'spindlelaw06.SpsBack': WHATEVER THE INPUT: true; the input reads as it did. -/
def spsBackSpec : ChangeSpec := { name := "spsBack", fn := fun _ => fun
  | [d1, d2] => { results := [.lit (.bool true)], args := [d1, d2] }
  | _ => none }
def spsBackRow : OpenClaim := { program := "ytnigpledibhiaaa", sum := "2967a2b8c04c03e193b01ae99d660940cc3f82b57c2003f23af8de421dcf6867", func := "spindle/spindlelaw06.SpsBack", spec := "spsBack", unfollowed := true, recurses := true, apart := false }
def SpsBackSaid : Prop := spsBackRow.holds Try.pinned (OpenSpec.ofChange spsBackSpec)

/-- ITS FALSE NEIGHBOUR: 'it returns false'. Refute it at one input. -/
def spsBackWrong : ChangeSpec := { name := "spsBack", fn := fun _ => fun
  | [d1, d2] => { results := [.lit (.bool false)], args := [d1, d2] }
  | _ => none }
def SpsBackWrongFalsely : Prop := spsBackRow.holds Try.pinned (OpenSpec.ofChange spsBackWrong)

/-- 'spindlelaw06.SpsApart': WHATEVER THE INPUT: true; the input reads as it did. -/
def spsApartSpec : ChangeSpec := { name := "spsApart", fn := fun _ => fun
  | [d1, d2] => { results := [.lit (.bool true)], args := [d1, d2] }
  | _ => none }
def spsApartRow : OpenClaim := { program := "ytnigpledibhiaaa", sum := "2967a2b8c04c03e193b01ae99d660940cc3f82b57c2003f23af8de421dcf6867", func := "spindle/spindlelaw06.SpsApart", spec := "spsApart", unfollowed := true, recurses := true, apart := false }
def SpsApartSaid : Prop := spsApartRow.holds Try.pinned (OpenSpec.ofChange spsApartSpec)

/-- ITS FALSE NEIGHBOUR: 'it returns false'. Refute it at one input. -/
def spsApartWrong : ChangeSpec := { name := "spsApart", fn := fun _ => fun
  | [d1, d2] => { results := [.lit (.bool false)], args := [d1, d2] }
  | _ => none }
def SpsApartWrongFalsely : Prop := spsApartRow.holds Try.pinned (OpenSpec.ofChange spsApartWrong)

/-- 'spindlelaw06.SpsCuts': WHATEVER THE INPUT: true; the input reads as it did. -/
def spsCutsSpec : ChangeSpec := { name := "spsCuts", fn := fun _ => fun
  | [d1, d2, d3] => { results := [.lit (.bool true)], args := [d1, d2, d3] }
  | _ => none }
def spsCutsRow : OpenClaim := { program := "ytnigpledibhiaaa", sum := "2967a2b8c04c03e193b01ae99d660940cc3f82b57c2003f23af8de421dcf6867", func := "spindle/spindlelaw06.SpsCuts", spec := "spsCuts", unfollowed := true, recurses := true, apart := false }
def SpsCutsSaid : Prop := spsCutsRow.holds Try.pinned (OpenSpec.ofChange spsCutsSpec)

/-- ITS FALSE NEIGHBOUR: 'it returns false'. Refute it at one input. -/
def spsCutsWrong : ChangeSpec := { name := "spsCuts", fn := fun _ => fun
  | [d1, d2, d3] => { results := [.lit (.bool false)], args := [d1, d2, d3] }
  | _ => none }
def SpsCutsWrongFalsely : Prop := spsCutsRow.holds Try.pinned (OpenSpec.ofChange spsCutsWrong)

/- THE SECOND FORM. 'bulk': how many values and letters a reading holds, each counted each time it is reached (what is shared counts as often as it is met; a slice's spare places count too). A statement '..UptoSaid' is the law's where the arguments, and the package variables that the reading takes, are together of bulk at most 1048576: NARROWER than '..Said'. Prove '..Said' where nothing that the law and all that it calls make is longer than what came in: it says more and counts as full. Else prove '..UptoSaid'. A law counts once. -/
mutual
def uptoBulk {H : Type} : DataW H → Nat
  | .lit (.string bytes) => bytes.length + 1
  | .lit _ => 1
  | .nil => 1
  | .ptr d => uptoBulk d + 1
  | .slice elems spare => uptoBulkAll elems + uptoBulkAll spare + 1
  | .agg parts => uptoBulkAll parts + 1
  | .iface _ d => uptoBulk d + 1
  | .map entries => uptoBulkEntries entries + 1
  | .held _ => 1
def uptoBulkAll {H : Type} : List (DataW H) → Nat
  | [] => 0
  | d :: r => uptoBulk d + uptoBulkAll r
def uptoBulkEntries {H : Type} : List (Lit × DataW H) → Nat
  | [] => 0
  | x :: r => uptoBulkEntry x + uptoBulkEntries r
def uptoBulkEntry {H : Type} : Lit × DataW H → Nat
  | (.string bytes, d) => bytes.length + uptoBulk d + 1
  | (_, d) => uptoBulk d + 1
 end
def uptoSmall : (H : Type) → List (DataW H) → Bool := fun _ ds => decide (uptoBulkAll ds ≤ 1048576)
def OpenSpec.upto (s : _root_.Go.ChangeSpec) : _root_.Go.OpenSpec := { _root_.Go.OpenSpec.ofChange s with cond := some uptoSmall }

/-- 'spindlelaw06.SpsMatches', WHERE WHAT IT READS IS OF BULK AT MOST 1048576: true; the input reads as it did. -/
def spsMatchesUptoRow : OpenClaim := { program := "ytnigpledibhiaaa", sum := "2967a2b8c04c03e193b01ae99d660940cc3f82b57c2003f23af8de421dcf6867", func := "spindle/spindlelaw06.SpsMatches", spec := "spsMatches", unfollowed := true, recurses := true, apart := false, narrowed := true }
def SpsMatchesUptoSaid : Prop := spsMatchesUptoRow.holds Try.pinned (OpenSpec.upto spsMatchesSpec)

/-- 'spindlelaw06.SpsReads', WHERE WHAT IT READS IS OF BULK AT MOST 1048576: true; the input reads as it did. -/
def spsReadsUptoRow : OpenClaim := { program := "ytnigpledibhiaaa", sum := "2967a2b8c04c03e193b01ae99d660940cc3f82b57c2003f23af8de421dcf6867", func := "spindle/spindlelaw06.SpsReads", spec := "spsReads", unfollowed := true, recurses := true, apart := false, narrowed := true }
def SpsReadsUptoSaid : Prop := spsReadsUptoRow.holds Try.pinned (OpenSpec.upto spsReadsSpec)

/-- 'spindlelaw06.SpsExamples', WHERE WHAT IT READS IS OF BULK AT MOST 1048576: true; the input reads as it did. -/
def spsExamplesUptoRow : OpenClaim := { program := "ytnigpledibhiaaa", sum := "2967a2b8c04c03e193b01ae99d660940cc3f82b57c2003f23af8de421dcf6867", func := "spindle/spindlelaw06.SpsExamples", spec := "spsExamples", unfollowed := true, recurses := true, apart := false, narrowed := true }
def SpsExamplesUptoSaid : Prop := spsExamplesUptoRow.holds Try.pinned (OpenSpec.upto spsExamplesSpec)

/-- 'spindlelaw06.SpsBack', WHERE WHAT IT READS IS OF BULK AT MOST 1048576: true; the input reads as it did. -/
def spsBackUptoRow : OpenClaim := { program := "ytnigpledibhiaaa", sum := "2967a2b8c04c03e193b01ae99d660940cc3f82b57c2003f23af8de421dcf6867", func := "spindle/spindlelaw06.SpsBack", spec := "spsBack", unfollowed := true, recurses := true, apart := false, narrowed := true }
def SpsBackUptoSaid : Prop := spsBackUptoRow.holds Try.pinned (OpenSpec.upto spsBackSpec)

/-- 'spindlelaw06.SpsApart', WHERE WHAT IT READS IS OF BULK AT MOST 1048576: true; the input reads as it did. -/
def spsApartUptoRow : OpenClaim := { program := "ytnigpledibhiaaa", sum := "2967a2b8c04c03e193b01ae99d660940cc3f82b57c2003f23af8de421dcf6867", func := "spindle/spindlelaw06.SpsApart", spec := "spsApart", unfollowed := true, recurses := true, apart := false, narrowed := true }
def SpsApartUptoSaid : Prop := spsApartUptoRow.holds Try.pinned (OpenSpec.upto spsApartSpec)

/-- 'spindlelaw06.SpsCuts', WHERE WHAT IT READS IS OF BULK AT MOST 1048576: true; the input reads as it did. -/
def spsCutsUptoRow : OpenClaim := { program := "ytnigpledibhiaaa", sum := "2967a2b8c04c03e193b01ae99d660940cc3f82b57c2003f23af8de421dcf6867", func := "spindle/spindlelaw06.SpsCuts", spec := "spsCuts", unfollowed := true, recurses := true, apart := false, narrowed := true }
def SpsCutsUptoSaid : Prop := spsCutsUptoRow.holds Try.pinned (OpenSpec.upto spsCutsSpec)

end Rows
end Go.Proofs.Ytnigpledibhiaaa
