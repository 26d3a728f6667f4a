/- The readers' and writers' contracts at values that are known: for the chapters' examples. -/
import Derived.Test.YtakpafmhdgnlmaaQuiet
namespace Go.Proofs.Ytakpafmhdgnlmaa
open Go.RowKit
set_option linter.unusedVariables false
set_option maxRecDepth 100000
set_option linter.unusedSimpArgs false

section
variable {W w : World} {L : List AObj} {F : List (Nat × Obj)} {b : Nat}
end
theorem cell_in {W w : World} {L : List AObj} {F : List (Nat × Obj)} (h : Hp W w L F) {g c : Nat} {cs : Array Value} {t : TypeId} {x : Value} (hm : (g, Obj.cells cs t (0, 0)) ∈ F) (hx : cs[c]? = some x) : w.cell? ⟨g, c, none⟩ = some x := by
  have := h.blk hm
  simp only at this
  simp [World.cell?, this, hx]

end Go.Proofs.Ytakpafmhdgnlmaa
