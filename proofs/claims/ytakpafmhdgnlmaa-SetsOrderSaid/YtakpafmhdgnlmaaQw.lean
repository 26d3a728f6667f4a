/- The reference's writer: what each of its functions does, at every state. -/
import Derived.Test.YtakpafmhdgnlmaaWrB
import Derived.Maps.AppendAt
namespace Go.Proofs.Ytakpafmhdgnlmaa
open Go.RowKit
set_option linter.unusedVariables false
set_option maxRecDepth 100000
set_option linter.unusedSimpArgs false

theorem one_new (w : World) (v : Value) (t : TypeId) : ∀ (j : Nat) (u : Value), [v][j]? = some u → (w.alloc (.cells #[v] t (0, 0))).cell? ((⟨w.heap.size, 0, none⟩ : Addr).add j) = some u := by
  intro j u hu
  cases j with
  | zero =>
    simp at hu
    subst hu
    rw [addr_add]
    exact cell_of_one (heap_alloc_new w _)
  | succ j => simp at hu

theorem chB_step (x : Nat) (hx : x ≤ 1) : ((chB (decide (x = 1))).toNat : Int) = 48 + (x : Int) := by
  rcases Nat.le_one_iff_eq_zero_or_eq_one.1 hx with rfl | rfl <;> rfl

end Go.Proofs.Ytakpafmhdgnlmaa
