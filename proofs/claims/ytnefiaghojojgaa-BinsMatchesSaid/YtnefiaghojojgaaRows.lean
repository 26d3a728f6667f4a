/-
  No cell of these rows narrows 'for every input' (looked for: loops, veiled, ifaces, maps, wideKeys, modest, calm, conditions, laid).
  DERIVED. THE GIVEN ROWS OF THIS SEAT. 4 by the template 'for every input the law returns true; each argument reads behind the call as it read before'; 0 by the template 'total and deterministic' (their statements: YtnefiaghojojgaaTotals.lean).
  GIVEN WITH THE SEED: the statements are not yours to turn. If you find one false, say at which input.
  Laid BY PROGRAM, IN A SANDBOX (cutbox-rows.mjs): the forced cells as the released guide's own fill.sh prints them over the translation 5399835dd58ed517… (all of the seat's roots in one cut). By AI agents, Wed Nov 11 2026. No macro, syntax, notation, axiom, sorry.
-/
import Derived.Test.YtnefiaghojojgaaChecked
import GoSem.Claim
import GoSem.ClaimJoined
import GoSem.ClaimMapViews
import Derived.JoinedTies
import Derived.KernelRfl
namespace Go.Proofs.Ytnefiaghojojgaa
/- THE CELL 'sum', in the pinned program and in every row, IS THE sha256 OF THE DUMP (.gsa) THAT YtnefiaghojojgaaProg.lean LOADS. Nothing in Lean hashes anything: it is a label: what it is worth is what the hold of that sum in a sandbox is worth. -/
noncomputable def Try.pinned : Pinned := { name := "ytnefiaghojojgaa", sum := "5399835dd58ed5172dae477415ed0326ddefd094bea096168fb13e2c2a9053a3", checked := Try.checked }
namespace Rows
def none {H : Type} : Left H := { results := [], args := [] }

/-- 'spindlelaw27.BinsTypes': WHATEVER THE INPUT: true; the input reads as it did. -/
def binsTypesSpec : ChangeSpec := { name := "binsTypes", fn := fun _ => fun
  | [] => { results := [.lit (.bool true)], args := [] }
  | _ => none }
def binsTypesRow : OpenClaim := { program := "ytnefiaghojojgaa", sum := "5399835dd58ed5172dae477415ed0326ddefd094bea096168fb13e2c2a9053a3", func := "spindle/spindlelaw27.BinsTypes", spec := "binsTypes", unfollowed := true, recurses := true, apart := false }
def BinsTypesSaid : Prop := binsTypesRow.holds Try.pinned (OpenSpec.ofChange binsTypesSpec)

/-- ITS FALSE NEIGHBOUR: 'it returns false'. Refute it at one input. -/
def binsTypesWrong : ChangeSpec := { name := "binsTypes", fn := fun _ => fun
  | [] => { results := [.lit (.bool false)], args := [] }
  | _ => none }
def BinsTypesWrongFalsely : Prop := binsTypesRow.holds Try.pinned (OpenSpec.ofChange binsTypesWrong)

/-- 'spindlelaw27.BinsLengths': WHATEVER THE INPUT: true; the input reads as it did. -/
def binsLengthsSpec : ChangeSpec := { name := "binsLengths", fn := fun _ => fun
  | [d1, d2, d3, d4] => { results := [.lit (.bool true)], args := [d1, d2, d3, d4] }
  | _ => none }
def binsLengthsRow : OpenClaim := { program := "ytnefiaghojojgaa", sum := "5399835dd58ed5172dae477415ed0326ddefd094bea096168fb13e2c2a9053a3", func := "spindle/spindlelaw27.BinsLengths", spec := "binsLengths", unfollowed := true, recurses := true, apart := false }
def BinsLengthsSaid : Prop := binsLengthsRow.holds Try.pinned (OpenSpec.ofChange binsLengthsSpec)

/-- ITS FALSE NEIGHBOUR: 'it returns false'. Refute it at one input. -/
def binsLengthsWrong : ChangeSpec := { name := "binsLengths", fn := fun _ => fun
  | [d1, d2, d3, d4] => { results := [.lit (.bool false)], args := [d1, d2, d3, d4] }
  | _ => none }
def BinsLengthsWrongFalsely : Prop := binsLengthsRow.holds Try.pinned (OpenSpec.ofChange binsLengthsWrong)

/-- 'spindlelaw27.BinsMatches': WHATEVER THE INPUT: true; the input reads as it did. -/
def binsMatchesSpec : ChangeSpec := { name := "binsMatches", fn := fun _ => fun
  | [d] => { results := [.lit (.bool true)], args := [d] }
  | _ => none }
def binsMatchesRow : OpenClaim := { program := "ytnefiaghojojgaa", sum := "5399835dd58ed5172dae477415ed0326ddefd094bea096168fb13e2c2a9053a3", func := "spindle/spindlelaw27.BinsMatches", spec := "binsMatches", unfollowed := true, recurses := true, apart := false }
def BinsMatchesSaid : Prop := binsMatchesRow.holds Try.pinned (OpenSpec.ofChange binsMatchesSpec)

/-- ITS FALSE NEIGHBOUR: 'it returns false'. Refute it at one input. -/
def binsMatchesWrong : ChangeSpec := { name := "binsMatches", fn := fun _ => fun
  | [d] => { results := [.lit (.bool false)], args := [d] }
  | _ => none }
def BinsMatchesWrongFalsely : Prop := binsMatchesRow.holds Try.pinned (OpenSpec.ofChange binsMatchesWrong)

/-- 'spindlelaw27.BinsApart': WHATEVER THE INPUT: true; the input reads as it did. -/
def binsApartSpec : ChangeSpec := { name := "binsApart", fn := fun _ => fun
  | [d1, d2] => { results := [.lit (.bool true)], args := [d1, d2] }
  | _ => none }
def binsApartRow : OpenClaim := { program := "ytnefiaghojojgaa", sum := "5399835dd58ed5172dae477415ed0326ddefd094bea096168fb13e2c2a9053a3", func := "spindle/spindlelaw27.BinsApart", spec := "binsApart", unfollowed := true, recurses := true, apart := false }
def BinsApartSaid : Prop := binsApartRow.holds Try.pinned (OpenSpec.ofChange binsApartSpec)

/-- ITS FALSE NEIGHBOUR: 'it returns false'. Refute it at one input. -/
def binsApartWrong : ChangeSpec := { name := "binsApart", fn := fun _ => fun
  | [d1, d2] => { results := [.lit (.bool false)], args := [d1, d2] }
  | _ => none }
def BinsApartWrongFalsely : Prop := binsApartRow.holds Try.pinned (OpenSpec.ofChange binsApartWrong)

/- THE SECOND FORM. 'bulk': how many values and letters a reading holds, each counted each time it is reached (what is shared counts as often as it is met; a slice's spare places count too). A statement '..UptoSaid' is the law's where the arguments, and the package variables that the reading takes, are together of bulk at most 1048576: NARROWER than '..Said'. Prove '..Said' where nothing that the law and all that it calls make is longer than what came in: it says more and counts as full. Else prove '..UptoSaid'. A law counts once. -/
mutual
def uptoBulk {H : Type} : DataW H → Nat
  | .lit (.string bytes) => bytes.length + 1
  | .lit _ => 1
  | .nil => 1
  | .ptr d => uptoBulk d + 1
  | .slice elems spare => uptoBulkAll elems + uptoBulkAll spare + 1
  | .agg parts => uptoBulkAll parts + 1
  | .iface _ d => uptoBulk d + 1
  | .map entries => uptoBulkEntries entries + 1
  | .held _ => 1
def uptoBulkAll {H : Type} : List (DataW H) → Nat
  | [] => 0
  | d :: r => uptoBulk d + uptoBulkAll r
def uptoBulkEntries {H : Type} : List (Lit × DataW H) → Nat
  | [] => 0
  | x :: r => uptoBulkEntry x + uptoBulkEntries r
def uptoBulkEntry {H : Type} : Lit × DataW H → Nat
  | (.string bytes, d) => bytes.length + uptoBulk d + 1
  | (_, d) => uptoBulk d + 1
 end
def uptoSmall : (H : Type) → List (DataW H) → Bool := fun _ ds => decide (uptoBulkAll ds ≤ 1048576)
def OpenSpec.upto (s : _root_.Go.ChangeSpec) : _root_.Go.OpenSpec := { _root_.Go.OpenSpec.ofChange s with cond := some uptoSmall }

/-- 'spindlelaw27.BinsTypes', WHERE WHAT IT READS IS OF BULK AT MOST 1048576: true; the input reads as it did. -/
def binsTypesUptoRow : OpenClaim := { program := "ytnefiaghojojgaa", sum := "5399835dd58ed5172dae477415ed0326ddefd094bea096168fb13e2c2a9053a3", func := "spindle/spindlelaw27.BinsTypes", spec := "binsTypes", unfollowed := true, recurses := true, apart := false, narrowed := true }
def BinsTypesUptoSaid : Prop := binsTypesUptoRow.holds Try.pinned (OpenSpec.upto binsTypesSpec)

/-- 'spindlelaw27.BinsLengths', WHERE WHAT IT READS IS OF BULK AT MOST 1048576: true; the input reads as it did. -/
def binsLengthsUptoRow : OpenClaim := { program := "ytnefiaghojojgaa", sum := "5399835dd58ed5172dae477415ed0326ddefd094bea096168fb13e2c2a9053a3", func := "spindle/spindlelaw27.BinsLengths", spec := "binsLengths", unfollowed := true, recurses := true, apart := false, narrowed := true }
def BinsLengthsUptoSaid : Prop := binsLengthsUptoRow.holds Try.pinned (OpenSpec.upto binsLengthsSpec)

/-- 'spindlelaw27.BinsMatches', WHERE WHAT IT READS IS OF BULK AT MOST 1048576: true; the input reads as it did. -/
def binsMatchesUptoRow : OpenClaim := { program := "ytnefiaghojojgaa", sum := "5399835dd58ed5172dae477415ed0326ddefd094bea096168fb13e2c2a9053a3", func := "spindle/spindlelaw27.BinsMatches", spec := "binsMatches", unfollowed := true, recurses := true, apart := false, narrowed := true }
def BinsMatchesUptoSaid : Prop := binsMatchesUptoRow.holds Try.pinned (OpenSpec.upto binsMatchesSpec)

/-- 'spindlelaw27.BinsApart', WHERE WHAT IT READS IS OF BULK AT MOST 1048576: true; the input reads as it did. -/
def binsApartUptoRow : OpenClaim := { program := "ytnefiaghojojgaa", sum := "5399835dd58ed5172dae477415ed0326ddefd094bea096168fb13e2c2a9053a3", func := "spindle/spindlelaw27.BinsApart", spec := "binsApart", unfollowed := true, recurses := true, apart := false, narrowed := true }
def BinsApartUptoSaid : Prop := binsApartUptoRow.holds Try.pinned (OpenSpec.upto binsApartSpec)

end Rows
end Go.Proofs.Ytnefiaghojojgaa
