/-
  DERIVED. GIVEN WITH THE SEED: THE CARDS: each row of YtchoiimmcgkimaaDoorRows.lean that lists a variable, with what it lists TIED to the program's text (the seventh form; the later family's looks); each row that meets fmt, with fmt's text TOLD by the authors' own Lean function (tested against real Go, not proved from fmt's source: count such statements apart). THE CARD IS WHAT COUNTS. Prove the row's statement (the work); the ties are given (YtchoiimmcgkimaaDoorTie.lean); close each card by the builder's one call (the guide's Derived/Test/ToyasCard.lean, 'card_holds'). Laid BY PROGRAM, IN A SANDBOX (cutbox-door.mjs). By AI agents, Wed Nov 11 2026. No macro, syntax, notation, axiom, sorry.
-/
import Derived.Test.YtchoiimmcgkimaaDoorRows
import GoSem.ClaimSeven
namespace Go.Proofs.YtchoiimmcgkimaaDoor
namespace Rows

/-- THE TIED CARD OF 'spindlelaw28.ABlockShapes'. -/
def aBlockShapesCard : Claim7 := { stood := { row := aBlockShapesRow, standIns := [], harness := (true, "696504bb3c1575a1fa6db2c343b3faec18b6a198ffb497f77c8a62c4cbe1c067"), looks := false }, kinds := [], alts := [], laidByText := true, laidKinds := [.data], laidTests := true, laidLooks := .later }
def ABlockShapesCardSaid : Prop := Claim7.holds Tryd.pinned (.plain (OpenSpec.ofChange aBlockShapesSpec)) aBlockShapesCard

/-- THE TIED CARD OF 'spindlelaw28.ABlockApart'. -/
def aBlockApartCard : Claim7 := { stood := { row := aBlockApartRow, standIns := [], harness := (true, "696504bb3c1575a1fa6db2c343b3faec18b6a198ffb497f77c8a62c4cbe1c067"), looks := false }, kinds := [], alts := [], laidByText := true, laidKinds := [.data], laidTests := true, laidLooks := .later }
def ABlockApartCardSaid : Prop := Claim7.holds Tryd.pinned (.plain (OpenSpec.ofChange aBlockApartSpec)) aBlockApartCard

/-- THE SECOND FORM's CARD OF 'spindlelaw28.ABlockShapes'. -/
def aBlockShapesUptoCard : Claim7 := { stood := { row := aBlockShapesUptoRow, standIns := [], harness := (true, "696504bb3c1575a1fa6db2c343b3faec18b6a198ffb497f77c8a62c4cbe1c067"), looks := false }, kinds := [], alts := [], laidByText := true, laidKinds := [.data], laidTests := true, laidLooks := .later }
def ABlockShapesUptoCardSaid : Prop := Claim7.holds Tryd.pinned (.plain (OpenSpec.upto aBlockShapesSpec)) aBlockShapesUptoCard

/-- THE SECOND FORM's CARD OF 'spindlelaw28.ABlockApart'. -/
def aBlockApartUptoCard : Claim7 := { stood := { row := aBlockApartUptoRow, standIns := [], harness := (true, "696504bb3c1575a1fa6db2c343b3faec18b6a198ffb497f77c8a62c4cbe1c067"), looks := false }, kinds := [], alts := [], laidByText := true, laidKinds := [.data], laidTests := true, laidLooks := .later }
def ABlockApartUptoCardSaid : Prop := Claim7.holds Tryd.pinned (.plain (OpenSpec.upto aBlockApartSpec)) aBlockApartUptoCard
end Rows
end Go.Proofs.YtchoiimmcgkimaaDoor
