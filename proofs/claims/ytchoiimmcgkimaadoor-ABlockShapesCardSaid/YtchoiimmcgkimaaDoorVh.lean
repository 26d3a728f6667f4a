/- A region that draws, whose calls keep the objects. -/
import Derived.Test.YtchoiimmcgkimaaDoorVs
import Derived.Deep.QuietTactic
import Derived.BigQuiet
import Derived.KernelRfl
namespace Go.Proofs.YtchoiimmcgkimaaDoor
open Go.RowKit
set_option linter.unusedVariables false
set_option maxRecDepth 100000
set_option linter.unusedSimpArgs false

/-- A world with these objects. -/
structure HpV (W : World) (L : List AObj) (F : List (Nat × Obj)) where
  w : World
  h : Hp W w L F
theorem wp_region_hv {P : Program} {W w : World} {L : List AObj} {F : List (Nat × Obj)} (hS : Hp W w L F) {id : Nat} {Q : Exit → Act → World → Prop} {a : Act} {l : List Oper} (hm : P.follows .mixedOrders = true) (hB : Region.lexB .any l.toArray = true)
    (h : wpQuiet P l.toArray (fun w' => ∃ x : HpV W L F, w' = x.w) (fun a' => ∀ w', (∃ x : HpV W L F, w' = x.w) → Q .normal a' w') l a) : (Code.region id l.toArray true).wp P Q a w :=
  wp_region_quiet (C := fun w' => ∃ x : HpV W L F, w' = x.w) hm hB ⟨⟨_, hS.drew⟩, rfl⟩ (by simpa using h)
theorem HpV.call {P : Program} {W : World} {L : List AObj} {F : List (Nat × Obj)} {x : HpV W L F} {f : FuncId} {args : Array Value} {v : Value}
    (h : Calls P f args x.w fun e w' => e = .returned v ∧ Hp W w' L F) : Calls P f args x.w fun e w'' => e = .returned v ∧ ∃ y : HpV W L F, w'' = y.w :=
  h.mono fun _ _ ⟨he, hw⟩ => ⟨he, ⟨_, hw⟩, rfl⟩
theorem HpV.call_same {P : Program} {W : World} {L : List AObj} {F : List (Nat × Obj)} {x : HpV W L F} {f : FuncId} {args : Array Value} {v : Value}
    (h : Calls P f args x.w fun e w' => e = .returned v ∧ x.w = w') : Calls P f args x.w fun e w'' => e = .returned v ∧ ∃ y : HpV W L F, w'' = y.w :=
  h.mono fun _ _ ⟨he, hw⟩ => ⟨he, x, hw.symm⟩
end Go.Proofs.YtchoiimmcgkimaaDoor
