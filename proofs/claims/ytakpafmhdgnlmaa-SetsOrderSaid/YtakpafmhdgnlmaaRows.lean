/-
  No cell of these rows narrows 'for every input' (looked for: loops, veiled, ifaces, maps, wideKeys, modest, calm, conditions, laid).
  DERIVED. THE GIVEN ROWS OF THIS SEAT. 5 by the template 'for every input the law returns true; each argument reads behind the call as it read before'; 0 by the template 'total and deterministic' (their statements: YtakpafmhdgnlmaaTotals.lean).
  GIVEN WITH THE SEED: the statements are not yours to turn. If you find one false, say at which input.
  Laid BY PROGRAM, IN A SANDBOX (cutbox-rows.mjs): the forced cells as the released guide's own fill.sh prints them over the translation 75fcce1248411aec… (all of the seat's roots in one cut). By AI agents, Wed Nov 11 2026. No macro, syntax, notation, axiom, sorry.
-/
import Derived.Test.YtakpafmhdgnlmaaChecked
import GoSem.Claim
import GoSem.ClaimJoined
import GoSem.ClaimMapViews
import Derived.JoinedTies
import Derived.KernelRfl
namespace Go.Proofs.Ytakpafmhdgnlmaa
/- THE CELL 'sum', in the pinned program and in every row, IS THE sha256 OF THE DUMP (.gsa) THAT YtakpafmhdgnlmaaProg.lean LOADS. Nothing in Lean hashes anything: it is a label: what it is worth is what the hold of that sum in a sandbox is worth. -/
noncomputable def Try.pinned : Pinned := { name := "ytakpafmhdgnlmaa", sum := "75fcce1248411aec10de3c49e45dd64b8eef0f2e540f2d7317008a7b7b4728f5", checked := Try.checked }
namespace Rows
def none {H : Type} : Left H := { results := [], args := [] }

/-- 'spindlelaw08.SetsLatest': WHATEVER THE INPUT: true; the input reads as it did. -/
def setsLatestSpec : ChangeSpec := { name := "setsLatest", fn := fun _ => fun
  | [d] => { results := [.lit (.bool true)], args := [d] }
  | _ => none }
def setsLatestRow : OpenClaim := { program := "ytakpafmhdgnlmaa", sum := "75fcce1248411aec10de3c49e45dd64b8eef0f2e540f2d7317008a7b7b4728f5", func := "spindle/spindlelaw08.SetsLatest", spec := "setsLatest", apart := false }
def SetsLatestSaid : Prop := setsLatestRow.holds Try.pinned (OpenSpec.ofChange setsLatestSpec)

/-- ITS FALSE NEIGHBOUR: 'it returns false'. Refute it at one input. -/
def setsLatestWrong : ChangeSpec := { name := "setsLatest", fn := fun _ => fun
  | [d] => { results := [.lit (.bool false)], args := [d] }
  | _ => none }
def SetsLatestWrongFalsely : Prop := setsLatestRow.holds Try.pinned (OpenSpec.ofChange setsLatestWrong)

/-- 'spindlelaw08.SetsOrder': WHATEVER THE INPUT: true; the input reads as it did. -/
def setsOrderSpec : ChangeSpec := { name := "setsOrder", fn := fun _ => fun
  | [d1, d2, d3, d4] => { results := [.lit (.bool true)], args := [d1, d2, d3, d4] }
  | _ => none }
def setsOrderRow : OpenClaim := { program := "ytakpafmhdgnlmaa", sum := "75fcce1248411aec10de3c49e45dd64b8eef0f2e540f2d7317008a7b7b4728f5", func := "spindle/spindlelaw08.SetsOrder", spec := "setsOrder", apart := false }
def SetsOrderSaid : Prop := setsOrderRow.holds Try.pinned (OpenSpec.ofChange setsOrderSpec)

/-- ITS FALSE NEIGHBOUR: 'it returns false'. Refute it at one input. -/
def setsOrderWrong : ChangeSpec := { name := "setsOrder", fn := fun _ => fun
  | [d1, d2, d3, d4] => { results := [.lit (.bool false)], args := [d1, d2, d3, d4] }
  | _ => none }
def SetsOrderWrongFalsely : Prop := setsOrderRow.holds Try.pinned (OpenSpec.ofChange setsOrderWrong)

/-- 'spindlelaw08.SetsMatches': WHATEVER THE INPUT: true; the input reads as it did. -/
def setsMatchesSpec : ChangeSpec := { name := "setsMatches", fn := fun _ => fun
  | [d] => { results := [.lit (.bool true)], args := [d] }
  | _ => none }
def setsMatchesRow : OpenClaim := { program := "ytakpafmhdgnlmaa", sum := "75fcce1248411aec10de3c49e45dd64b8eef0f2e540f2d7317008a7b7b4728f5", func := "spindle/spindlelaw08.SetsMatches", spec := "setsMatches", inPlace := ["maps.clone"], apart := false }
def SetsMatchesSaid : Prop := setsMatchesRow.holds Try.pinned (OpenSpec.ofChange setsMatchesSpec)

/-- ITS FALSE NEIGHBOUR: 'it returns false'. Refute it at one input. -/
def setsMatchesWrong : ChangeSpec := { name := "setsMatches", fn := fun _ => fun
  | [d] => { results := [.lit (.bool false)], args := [d] }
  | _ => none }
def SetsMatchesWrongFalsely : Prop := setsMatchesRow.holds Try.pinned (OpenSpec.ofChange setsMatchesWrong)

/-- 'spindlelaw08.SetsExamples': WHATEVER THE INPUT: true; the input reads as it did. -/
def setsExamplesSpec : ChangeSpec := { name := "setsExamples", fn := fun _ => fun
  | [] => { results := [.lit (.bool true)], args := [] }
  | _ => none }
def setsExamplesRow : OpenClaim := { program := "ytakpafmhdgnlmaa", sum := "75fcce1248411aec10de3c49e45dd64b8eef0f2e540f2d7317008a7b7b4728f5", func := "spindle/spindlelaw08.SetsExamples", spec := "setsExamples", inPlace := ["maps.clone"], apart := false }
def SetsExamplesSaid : Prop := setsExamplesRow.holds Try.pinned (OpenSpec.ofChange setsExamplesSpec)

/-- ITS FALSE NEIGHBOUR: 'it returns false'. Refute it at one input. -/
def setsExamplesWrong : ChangeSpec := { name := "setsExamples", fn := fun _ => fun
  | [] => { results := [.lit (.bool false)], args := [] }
  | _ => none }
def SetsExamplesWrongFalsely : Prop := setsExamplesRow.holds Try.pinned (OpenSpec.ofChange setsExamplesWrong)

/-- 'spindlelaw08.SetsCopies': WHATEVER THE INPUT: true; the input reads as it did. -/
def setsCopiesSpec : ChangeSpec := { name := "setsCopies", fn := fun _ => fun
  | [d1, d2, d3] => { results := [.lit (.bool true)], args := [d1, d2, d3] }
  | _ => none }
def setsCopiesRow : OpenClaim := { program := "ytakpafmhdgnlmaa", sum := "75fcce1248411aec10de3c49e45dd64b8eef0f2e540f2d7317008a7b7b4728f5", func := "spindle/spindlelaw08.SetsCopies", spec := "setsCopies", inPlace := ["maps.clone"], apart := false }
def SetsCopiesSaid : Prop := setsCopiesRow.holds Try.pinned (OpenSpec.ofChange setsCopiesSpec)

/-- ITS FALSE NEIGHBOUR: 'it returns false'. Refute it at one input. -/
def setsCopiesWrong : ChangeSpec := { name := "setsCopies", fn := fun _ => fun
  | [d1, d2, d3] => { results := [.lit (.bool false)], args := [d1, d2, d3] }
  | _ => none }
def SetsCopiesWrongFalsely : Prop := setsCopiesRow.holds Try.pinned (OpenSpec.ofChange setsCopiesWrong)

/- THE SECOND FORM. 'bulk': how many values and letters a reading holds, each counted each time it is reached (what is shared counts as often as it is met; a slice's spare places count too). A statement '..UptoSaid' is the law's where the arguments, and the package variables that the reading takes, are together of bulk at most 1048576: NARROWER than '..Said'. Prove '..Said' where nothing that the law and all that it calls make is longer than what came in: it says more and counts as full. Else prove '..UptoSaid'. A law counts once. -/
mutual
def uptoBulk {H : Type} : DataW H → Nat
  | .lit (.string bytes) => bytes.length + 1
  | .lit _ => 1
  | .nil => 1
  | .ptr d => uptoBulk d + 1
  | .slice elems spare => uptoBulkAll elems + uptoBulkAll spare + 1
  | .agg parts => uptoBulkAll parts + 1
  | .iface _ d => uptoBulk d + 1
  | .map entries => uptoBulkEntries entries + 1
  | .held _ => 1
def uptoBulkAll {H : Type} : List (DataW H) → Nat
  | [] => 0
  | d :: r => uptoBulk d + uptoBulkAll r
def uptoBulkEntries {H : Type} : List (Lit × DataW H) → Nat
  | [] => 0
  | x :: r => uptoBulkEntry x + uptoBulkEntries r
def uptoBulkEntry {H : Type} : Lit × DataW H → Nat
  | (.string bytes, d) => bytes.length + uptoBulk d + 1
  | (_, d) => uptoBulk d + 1
 end
def uptoSmall : (H : Type) → List (DataW H) → Bool := fun _ ds => decide (uptoBulkAll ds ≤ 1048576)
def OpenSpec.upto (s : _root_.Go.ChangeSpec) : _root_.Go.OpenSpec := { _root_.Go.OpenSpec.ofChange s with cond := some uptoSmall }

/-- 'spindlelaw08.SetsLatest', WHERE WHAT IT READS IS OF BULK AT MOST 1048576: true; the input reads as it did. -/
def setsLatestUptoRow : OpenClaim := { program := "ytakpafmhdgnlmaa", sum := "75fcce1248411aec10de3c49e45dd64b8eef0f2e540f2d7317008a7b7b4728f5", func := "spindle/spindlelaw08.SetsLatest", spec := "setsLatest", apart := false, narrowed := true }
def SetsLatestUptoSaid : Prop := setsLatestUptoRow.holds Try.pinned (OpenSpec.upto setsLatestSpec)

/-- 'spindlelaw08.SetsOrder', WHERE WHAT IT READS IS OF BULK AT MOST 1048576: true; the input reads as it did. -/
def setsOrderUptoRow : OpenClaim := { program := "ytakpafmhdgnlmaa", sum := "75fcce1248411aec10de3c49e45dd64b8eef0f2e540f2d7317008a7b7b4728f5", func := "spindle/spindlelaw08.SetsOrder", spec := "setsOrder", apart := false, narrowed := true }
def SetsOrderUptoSaid : Prop := setsOrderUptoRow.holds Try.pinned (OpenSpec.upto setsOrderSpec)

/-- 'spindlelaw08.SetsMatches', WHERE WHAT IT READS IS OF BULK AT MOST 1048576: true; the input reads as it did. -/
def setsMatchesUptoRow : OpenClaim := { program := "ytakpafmhdgnlmaa", sum := "75fcce1248411aec10de3c49e45dd64b8eef0f2e540f2d7317008a7b7b4728f5", func := "spindle/spindlelaw08.SetsMatches", spec := "setsMatches", inPlace := ["maps.clone"], apart := false, narrowed := true }
def SetsMatchesUptoSaid : Prop := setsMatchesUptoRow.holds Try.pinned (OpenSpec.upto setsMatchesSpec)

/-- 'spindlelaw08.SetsExamples', WHERE WHAT IT READS IS OF BULK AT MOST 1048576: true; the input reads as it did. -/
def setsExamplesUptoRow : OpenClaim := { program := "ytakpafmhdgnlmaa", sum := "75fcce1248411aec10de3c49e45dd64b8eef0f2e540f2d7317008a7b7b4728f5", func := "spindle/spindlelaw08.SetsExamples", spec := "setsExamples", inPlace := ["maps.clone"], apart := false, narrowed := true }
def SetsExamplesUptoSaid : Prop := setsExamplesUptoRow.holds Try.pinned (OpenSpec.upto setsExamplesSpec)

/-- 'spindlelaw08.SetsCopies', WHERE WHAT IT READS IS OF BULK AT MOST 1048576: true; the input reads as it did. -/
def setsCopiesUptoRow : OpenClaim := { program := "ytakpafmhdgnlmaa", sum := "75fcce1248411aec10de3c49e45dd64b8eef0f2e540f2d7317008a7b7b4728f5", func := "spindle/spindlelaw08.SetsCopies", spec := "setsCopies", inPlace := ["maps.clone"], apart := false, narrowed := true }
def SetsCopiesUptoSaid : Prop := setsCopiesUptoRow.holds Try.pinned (OpenSpec.upto setsCopiesSpec)

end Rows
end Go.Proofs.Ytakpafmhdgnlmaa
